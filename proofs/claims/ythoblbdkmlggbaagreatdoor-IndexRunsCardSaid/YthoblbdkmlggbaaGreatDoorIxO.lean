/- The walk of index.Run. -/
import Derived.Test.YthoblbdkmlggbaaGreatDoorIxE
set_option linter.unusedSimpArgs false
set_option linter.unusedVariables false
namespace Go.Proofs.YthoblbdkmlggbaaGreatDoor
open Go.RowKit
namespace Ix
theorem get_small (l t q : List UInt8) (h : Sd.get l = some (t, q)) : t.length ≤ l.length ∧ q.length < l.length := by
  refine ⟨?_, get_less l t q h⟩
  unfold Sd.get at h
  cases h1 : Sd.lenGo true 0 l with
  | none => rw [h1] at h; cases h
  | some o =>
    obtain ⟨n, r⟩ := o
    rw [h1] at h
    simp only at h
    split at h
    · have := lenGo_less _ _ _ _ _ h1
      injection h with h
      injection h with h _
      rw [← h, List.length_take]; omega
    · cases h
theorem allN_small : ∀ (f : Nat) (s : List UInt8) (ts : List (List UInt8)), Sd.allN f s = some ts → (∀ t ∈ ts, t.length ≤ s.length) ∧ ts.length ≤ s.length
  | 0, [], ts, h => by unfold Sd.allN at h; cases h; simp
  | f + 1, [], ts, h => by unfold Sd.allN at h; cases h; simp
  | 0, _ :: _, ts, h => by unfold Sd.allN at h; cases h
  | f + 1, c :: r, ts, h => by
    rw [Sd.allN] at h
    cases hg : Sd.get (c :: r) with
    | none => rw [hg] at h; cases h
    | some o =>
      obtain ⟨t, q⟩ := o
      rw [hg] at h
      simp only at h
      have h1 := get_small _ _ _ hg
      cases ha : Sd.allN f q with
      | none => rw [ha] at h; cases h
      | some us =>
        rw [ha] at h
        simp only [Option.map_some, Option.some.injEq] at h
        subst h
        have h2 := allN_small f q us ha
        refine ⟨fun u hu => ?_, ?_⟩
        · rcases List.mem_cons.1 hu with rfl | hu
          · exact h1.1
          · have := h2.1 u hu; omega
        · rw [List.length_cons]; omega
theorem all_small (s : List UInt8) (ts : List (List UInt8)) (h : Sd.all s = some ts) : (∀ t ∈ ts, t.length ≤ s.length) ∧ ts.length ≤ s.length := allN_small _ _ _ h
theorem recE_small (t : List UInt8) (x : En) (h : recE t = some x) : x.1.length ≤ t.length := by
  unfold recE at h
  split at h
  · next a b hab =>
    split at h
    · cases h
      exact (all_small _ _ hab).1 a (by simp)
    · cases h
  · cases h
theorem recsE_small (m : Nat) : ∀ (a : List (List UInt8)) (out : List En), recsE a = some out → (∀ t ∈ a, t.length ≤ m) → ∀ x ∈ out, x.1.length ≤ m
  | [], out, h, _ => by unfold recsE at h; cases h; simp
  | t :: r, out, h, hm => by
    unfold recsE at h
    cases hx : recE t with
    | none => rw [hx] at h; cases h
    | some x =>
      rw [hx] at h
      simp only at h
      cases hr : recsE r with
      | none => rw [hr] at h; cases h
      | some o =>
        rw [hr] at h
        simp only [Option.map_some, Option.some.injEq] at h
        subst h
        intro y hy
        rcases List.mem_cons.1 hy with rfl | hy
        · have := recE_small t y hx; have := hm t (by simp); omega
        · exact recsE_small m r o hr (fun u hu => hm u (List.mem_cons_of_mem _ hu)) y hy
theorem entries_small (s : List UInt8) : ((entries s).getD []).length ≤ s.length ∧ ∀ x ∈ (entries s).getD [], x.1.length ≤ s.length := by
  cases h : entries s with
  | none => simp
  | some out =>
    unfold entries at h
    split at h
    · cases h
    · next ts hts =>
      have h1 := all_small _ _ hts
      have h2 := recsE_len _ _ h
      exact ⟨by rw [Option.getD_some, h2]; exact h1.2, by rw [Option.getD_some]; exact recsE_small _ _ _ h h1.1⟩
theorem line_length (l : List En) (hl : l.length ≤ 10000) (hw : ∀ x ∈ l, x.1.length ≤ 10000) : ∀ t ∈ lines l, t.length ≤ 310010 := by
  intro t ht
  rw [lines_places, List.mem_map] at ht
  obtain ⟨p, hp, rfl⟩ := ht
  have h1 := len_places l hw p hp
  have h2 := text_length (pagesAt l p)
  have h3 := pagesAt_length l p
  unfold line
  rw [List.length_append]
  have h4 : (if text (pagesAt l p) = [] then [] else 32 :: text (pagesAt l p)).length ≤ 300001 := by
    split
    · simp
    · rw [List.length_cons]; omega
  have h5 : (if p.2.2 = true then 32 :: 32 :: p.2.1 else p.1).length ≤ 10002 := by
    split
    · simp only [List.length_cons]; omega
    · omega
  omega
theorem lines_length (l : List En) : (lines l).length ≤ 2 * l.length := by rw [lines_places, List.length_map]; exact places_le l
def putsOut (ts : List (List UInt8)) : List UInt8 := ts.flatMap Sd.put
theorem putsOut_snoc (ts : List (List UInt8)) (t : List UInt8) : putsOut (ts ++ [t]) = putsOut ts ++ Sd.put t := by unfold putsOut; rw [List.flatMap_append]; simp
theorem putsOut_length : ∀ (ts : List (List UInt8)), (∀ t ∈ ts, t.length ≤ 310010) → (putsOut ts).length ≤ ts.length * 310018
  | [], _ => by simp [putsOut]
  | t :: r, h => by
    have h1 := putsOut_length r fun u hu => h u (List.mem_cons_of_mem _ hu)
    have h2 := Sd.put_le t (by have := h t (by simp); omega)
    have h3 := h t (by simp)
    unfold putsOut at h1 ⊢
    rw [List.flatMap_cons, List.length_append, List.length_cons]
    omega
def idx : List UInt8 := [46, 105, 100, 120]
def ind : List UInt8 := [46, 105, 110, 100]
def ilg : List UInt8 := [46, 105, 108, 103]
def notes1 (text job : List UInt8) : List (Int × List UInt8) := notes ((entries text).getD []) ++ (if (entries text).isSome then [] else [(5, job ++ idx)])
def outOf (text : List UInt8) : List UInt8 := putsOut (lines ((entries text).getD []))
def notes2 (text job : List UInt8) : List (Int × List UInt8) := notes1 text job ++ (if 4000 < (outOf text).length then [(3, job ++ ind)] else [])
def filesOf (text job : List UInt8) : List (List UInt8 × List UInt8) := [(job ++ ilg, (logText (notes2 text job)).take 4000), (job ++ ind, (outOf text).take 4000)]
def run (l : List (List UInt8 × List UInt8)) (job : List UInt8) : Option (List (List UInt8 × List UInt8)) := if jobOk job then some (filesOf ((get l (job ++ idx)).getD []) job) else none
theorem get_mem {l : List (List UInt8 × List UInt8)} {t s : List UInt8} (h : get l t = some s) : ∃ x ∈ l, x.2 = s := by
  unfold get at h
  cases hf : l.find? (fun x => x.1 == t) with
  | none => rw [hf] at h; cases h
  | some x =>
    rw [hf] at h
    cases h
    exact ⟨x, List.mem_of_find?_eq_some hf, rfl⟩
end Ix
def RunPost (l : List (List UInt8 × List UInt8)) (job : List UInt8) (w : World) (e : Ending) (w' : World) : Prop :=
  Below w.heap.size w w' ∧
  match Ix.run l job with
  | some fs => ∃ va vr, e = .returned (.tuple #[va, vr, .int .i64 0]) ∧ OwnL w.heap.size 53 2 RFl w' va fs ∧ OwnL w.heap.size 9 1 RStr w' vr [job ++ Ix.idx]
  | none => e = .returned (.tuple #[.slice none 0 0, .slice none 0 0, .int .i64 2])
set_option maxRecDepth 100000 in
set_option maxHeartbeats 3200000 in
theorem ix_Run (l : List (List UInt8 × List UInt8)) (job : List UInt8) (v : Value) (S : Nat → Prop) (w : World) (hS : SliceIn S 2 RFl w v l) (hs : Ix.Sorted l) (hl : l.length ≤ 1000000) (ht : ∀ x ∈ l, x.2.length ≤ 10000) (hj : job.length ≤ 9223372036854775807) (hL : Laid10 w) :
    Calls Tryz.prog 20 #[v, .string ⟨job.toArray⟩] w (RunPost l job w) := by
  have HS := Lib.hid hS; have Hs := Lib.hid hs; have Hl := Lib.hid hl; have Ht := Lib.hid ht; have Hj := Lib.hid hj; have HL := Lib.hid hL
  clear hS hs hl ht hj hL
  obtain ⟨i0, hi, hz0, hz1, hz2⟩ := info_parts note_info
  have Hi := Lib.hid hi; have Hz0 := Lib.hid hz0; have Hz1 := Lib.hid hz1; have Hz2 := Lib.hid hz2; clear hi hz0 hz1 hz2
  cases hjb : Ix.jobOk job with
  | false =>
    have HR := Lib.hid (show Ix.run l job = none by unfold Ix.run; rw [hjb]; rfl)
    have Hjb := Lib.hid hjb; clear hjb
    go_enter Tryz.func20, Tryz.ntmps20
    go_wp2_with (go_at_call 41; refine (markup_job job _ Hj.out).mono ?_; rw [Hjb.out]; rintro e w' ⟨rfl, hw'⟩; have hw' := hw'.symm; subst hw')
    go_ret3
    refine ⟨Below.refl _ _, ?_⟩
    rw [HR.out]
    simp
  | true =>
    obtain ⟨tx, htx⟩ : ∃ t, t = (Ix.get l (job ++ Ix.idx)).getD [] := ⟨_, rfl⟩
    have HR := Lib.hid (show Ix.run l job = some (Ix.filesOf tx job) by unfold Ix.run; rw [hjb, htx]; rfl)
    have htl : tx.length ≤ 10000 := by
      rw [htx]
      cases hg : Ix.get l (job ++ Ix.idx) with
      | none => simp
      | some s =>
        obtain ⟨x, hx, rfl⟩ := Ix.get_mem hg
        exact Ht.out x hx
    have hj20 : job.length ≤ 20 := by
      unfold Ix.jobOk at hjb
      simp at hjb
      exact hjb.2
    have Hjb := Lib.hid hjb; have Htx := Lib.hid htx; have Htl := Lib.hid htl; have Hj20 := Lib.hid hj20
    clear hjb htx htl hj20
    have hap : (⟨job.toArray⟩ : ByteArray) ++ ⟨#[46, 105, 100, 120]⟩ = ⟨(job ++ Ix.idx).toArray⟩ := append_data job Ix.idx
    have hq1 : ¬ 9223372036854775807 < job.length + 4 := by have := Hj20.out; omega
    go_enter Tryz.func20, Tryz.ntmps20
    go_wp2_with (go_at_call 41; refine (markup_job job _ Hj.out).mono ?_; rw [Hjb.out]; rintro e w' ⟨rfl, hw'⟩; have hw' := hw'.symm; subst hw')
    refine (files_get l (job ++ Ix.idx) v S w HS.out Hs.out Hl.out).mono ?_
    rw [← Htx.out]
    rintro e w1 ⟨rfl, hb1⟩
    have Hb1 := Lib.hid hb1; clear hb1
    go_wp2_with fail
    refine (ix_entries tx w1 (HL.out.below Hb1.out) (by have := Htl.out; omega)).mono ?_
    rintro e w2 ⟨ve, rfl, hE, hb2⟩
    have HE := Lib.hid hE; have Hb2 := Lib.hid (bseq Hb1.out hb2)
    clear hE hb2
    obtain ⟨es, hes⟩ : ∃ es, es = (Ix.entries tx).getD [] := ⟨_, rfl⟩
    have hesl : es.length ≤ 10000 ∧ ∀ x ∈ es, x.1.length ≤ 10000 := by
      have h := Ix.entries_small tx
      rw [← hes] at h
      have := Htl.out
      exact ⟨by omega, fun x hx => by have := h.2 x hx; omega⟩
    rw [← hes] at HE
    obtain ⟨ok, hok⟩ : ∃ ok, ok = (Ix.entries tx).isSome := ⟨_, rfl⟩
    rw [← hok]
    have Hes := Lib.hid hes; have Hesl := Lib.hid hesl; have Hok := Lib.hid hok
    clear hes hesl hok
    go_wp2_with fail
    refine (ix_Lines es ve (fun _ => True) w2 (HE.out.slice REn.size (fun _ => True) (fun _ _ => trivial)) Hesl.out.1 Hesl.out.2 (HL.out.below Hb2.out).cnt).mono ?_
    rintro e w3 ⟨vl, vn, rfl, hLn, hNt, hb3⟩
    obtain ⟨pl, cl, rfl⟩ := hLn.form
    obtain ⟨pn, cn, rfl⟩ := hNt.form
    have hLn := hLn.lower (B' := w.heap.size) Hb2.out.size
    have hNt := hNt.lower (B' := w.heap.size) Hb2.out.size
    have HLn := Lib.hid hLn; have HNt := Lib.hid hNt; have Hb3 := Lib.hid (bseq Hb2.out hb3)
    clear hLn hNt hb3
    go_upto_if 39 with fail
    go_cut [13] from 40 to 44 (fun nv W => ∃ p c, nv = .slice p (Ix.notes1 tx job).length c ∧ OwnL w.heap.size 67 2 RNote W nv (Ix.notes1 tx job) ∧ OwnL w.heap.size 9 1 RStr W (.slice pl (Ix.lines es).length cl) (Ix.lines es) ∧ Below w.heap.size w W)
    case first =>
      cases ok with
      | true =>
        have hn1 : Ix.notes1 tx job = Ix.notes es := by unfold Ix.notes1; rw [← Hok.out, ← Hes.out]; simp
        have Hn1 := Lib.hid hn1; clear hn1
        go_wp2_with fail
        go_meet
        rw [Hn1.out]
        exact ⟨_, _, rfl, HNt.out, HLn.out, Hb3.out⟩
      | false =>
        have hn1 : Ix.notes1 tx job = Ix.notes es ++ [(5, job ++ Ix.idx)] := by unfold Ix.notes1; rw [← Hok.out, ← Hes.out]; simp
        have Hn1 := Lib.hid hn1; clear hn1
        obtain ⟨fl, hown, hrep⟩ := HNt.out
        have Hown := Lib.hid hown; have Hrep := Lib.hid hrep
        clear hown hrep
        have hnl := Ix.notes_length es
        have Hom := Lib.hid (show (Ix.notes es).length + 1 ≤ maxLen by have := Hesl.out.1; unfold maxLen; omega)
        have Ho24 := Lib.hid (show ((Ix.notes es).length + 1) * 24 ≤ 140737488355328 by have := Hesl.out.1; omega)
        clear hnl
        have H0W := Lib.hid Hb3.out.size
        go_wp2_with (at_builtin; go_loud (refine wpList_append1 rfl (.tmp 40) (.tmp 43) 26 rfl w.heap.size 67 i0 (.agg #[.int .i64 0, .string ⟨#[]⟩]) 2 24 Tryz.underlying26 Hi.out Hz0.out Hz1.out Hz2.out rfl (by decide) _ _ _ Hown.out rfl [.int .i64 5, .string ⟨(job ++ Ix.idx).toArray⟩] rfl (by simp) rfl (by simp [Value.oneCell']) Hom.out Ho24.out H0W.out ?_); intro v2 w9 own2 g2 at2; obtain ⟨p2, cap2, hv2, _⟩ := own2.form (Nat.succ_pos _); subst hv2)
        go_meet
        rw [Hn1.out]
        refine ⟨_, _, by rw [List.length_append]; rfl, ⟨_, by rw [List.length_append]; exact own2, RepRow.snoc (R := RNote) (x := ((5 : Int), job ++ Ix.idx)) (vs := [.int .i64 5, .string ⟨(job ++ Ix.idx).toArray⟩]) rfl Hrep.out⟩, ?_, Hb3.out.grown g2 H0W.out (fun q e => (World.ownsRow.lt Hown.out q e).1)⟩
        obtain ⟨fl2, h1, h2⟩ := HLn.out
        exact ⟨fl2, h1.kept g2 (own_apart h1 Hown.out (by decide)), h2⟩
    case rest =>
      obtain ⟨p1, c1, rfl, hN1, hL1, hbc⟩ := hcut
      have hN0 : (Ix.notes1 tx job).length ≤ 10001 := by
        unfold Ix.notes1
        rw [← Hes.out, List.length_append]
        have h1 := Ix.notes_length es
        have h2 := Hesl.out.1
        have h3 : (if (Ix.entries tx).isSome = true then ([] : List (Int × List UInt8)) else [(5, job ++ Ix.idx)]).length ≤ 1 := by split <;> simp
        omega
      have HN1 := Lib.hid hN1; have HN0 := Lib.hid hN0
      have HC := Lib.hid hbc
      have HLat := Lib.hid (hL1.slice (fun _ _ h => by rw [RStr.two h]; rfl) (fun _ => True) (fun _ _ => trivial))
      have Hll := Lib.hid (Ix.line_length es Hesl.out.1 Hesl.out.2)
      have Hln := Lib.hid (show (Ix.lines es).length ≤ 20000 by have := Ix.lines_length es; have := Hesl.out.1; omega)
      have Hcnt := Lib.hid (HL.out.below hbc)
      clear hN1 hL1 hbc hN0
      go_wp2_with fail
      go_loopw [14, 47] (fun sv iv wr => ∃ k : Nat, k ≤ (Ix.lines es).length ∧ iv = .int .i64 (k : Int) ∧ sv = .string ⟨(Ix.putsOut ((Ix.lines es).take k)).toArray⟩ ∧ Below wc.heap.size wc wr) (fun _ iv _ => (Ix.lines es).length - (intOf iv).toNat)
      case atStart => exact ⟨0, Nat.zero_le _, rfl, rfl, Below.refl _ _⟩
      case round =>
        obtain ⟨k, hk, rfl, rfl, hb⟩ := hrel
        have Hb := Lib.hid hb; clear hb
        by_cases hlt : k < (Ix.lines es).length
        · obtain ⟨t, ht⟩ : ∃ t, (Ix.lines es)[k]? = some t := ⟨_, List.getElem?_eq_getElem hlt⟩
          obtain ⟨p', c', hp', _, _, hat⟩ := HLat.out
          simp only [Value.slice.injEq] at hp'
          obtain ⟨rfl, _, rfl⟩ := hp'
          obtain ⟨b, off, vs, rfl, _, hbw, hR, hc⟩ := hat k t ht
          have hR := RStr.two hR
          subst hR
          have e0 : wr.cell? ⟨b, off + k, none⟩ = some (.string ⟨t.toArray⟩) := by
            have := (Hb.out.cell (p := ⟨b, off + (k * 1 + 0), none⟩) hbw).trans (hc 0 _ rfl)
            rwa [Nat.mul_one, Nat.add_zero] at this
          have hlt' : (k : Int) < ((Ix.lines es).length : Int) := by omega
          have htl1 := Hll.out t (List.mem_of_getElem? ht)
          obtain ⟨P, hP⟩ : ∃ P, P = Ix.putsOut ((Ix.lines es).take k) := ⟨_, rfl⟩
          have hPl : P.length ≤ 6200360000 := by
            have h1 := Ix.putsOut_length ((Ix.lines es).take k) (fun y hy => Hll.out y (List.mem_of_mem_take hy))
            have h2 : ((Ix.lines es).take k).length ≤ 20000 := by rw [List.length_take]; have := Hln.out; omega
            have h3 : ((Ix.lines es).take k).length * 310018 ≤ 6200360000 := by omega
            rw [hP]
            exact Nat.le_trans h1 h3
          have hnext : Ix.putsOut ((Ix.lines es).take (k + 1)) = P ++ Sd.put t := by rw [Ix.take_snoc _ k t ht, Ix.putsOut_snoc, hP]
          have hpl := Sd.put_le t (by omega)
          obtain ⟨pt, hpt⟩ : ∃ pt, pt = Sd.put t := ⟨_, rfl⟩
          rw [← hpt] at hnext hpl
          have hq2 : ¬ 9223372036854775807 < P.length + pt.length := by omega
          have hap2 : (⟨P.toArray⟩ : ByteArray) ++ ⟨pt.toArray⟩ = ⟨(P ++ pt).toArray⟩ := append_data P pt
          obtain ⟨k1, hk1⟩ : ∃ k1, k1 = k + 1 := ⟨_, rfl⟩
          have hwk : wrap64 ((k : Int) + 1) = (k1 : Int) := by unfold wrap64; have := Hln.out; omega
          rw [← hP]
          have Hnext := Lib.hid hnext; have Hpt := Lib.hid hpt; have Hk1 := Lib.hid hk1; have Htl1 := Lib.hid htl1; have Hlt := Lib.hid hlt
          clear hnext hpt hk1 htl1 hPl hpl hP ht hat hc hlt
          go_wp2_with fail
          refine (wire_put t _ (Hcnt.out.below Hb.out).cnt (by have := Htl1.out; omega)).mono ?_
          rw [← Hpt.out]
          rintro e w5 ⟨rfl, hb5⟩
          have Hb5 := Lib.hid hb5; clear hb5
          go_wp2_with fail
          go_roundw
          case rel => exact ⟨k1, by have := Hlt.out; have := Hk1.out; omega, by rw [hwk], by rw [Hk1.out, Hnext.out], bseq Hb.out Hb5.out⟩
          case measure => have := Hlt.out; have := Hk1.out; rw [hwk]; simp [intOf]; omega
        · have he : k = (Ix.lines es).length := by omega
          subst he
          rw [List.take_length]
          have hout : Ix.putsOut (Ix.lines es) = Ix.outOf tx := by unfold Ix.outOf; rw [← Hes.out]
          have hol : (Ix.outOf tx).length ≤ 6200360000 := by
            rw [← hout]
            have h1 := Ix.putsOut_length (Ix.lines es) Hll.out
            have h2 := Hln.out
            have h3 : (Ix.lines es).length * 310018 ≤ 6200360000 := by omega
            exact Nat.le_trans h1 h3
          rw [hout]
          obtain ⟨out, houte⟩ : ∃ o, o = Ix.outOf tx := ⟨_, rfl⟩
          rw [← houte] at hol ⊢
          have Hout := Lib.hid houte; have Hol := Lib.hid hol
          clear hlt hk hout houte hol
          have hap3 : (⟨job.toArray⟩ : ByteArray) ++ ⟨#[46, 105, 110, 100]⟩ = ⟨(job ++ Ix.ind).toArray⟩ := append_data job Ix.ind
          have hap4 : (⟨job.toArray⟩ : ByteArray) ++ ⟨#[46, 105, 108, 103]⟩ = ⟨(job ++ Ix.ilg).toArray⟩ := append_data job Ix.ilg
          go_upto_if 58 with fail
          go_cut [13, 58] from 59 to 64 (fun nv _ W => ∃ p c, nv = .slice p (Ix.notes2 tx job).length c ∧ OwnL w.heap.size 67 2 RNote W nv (Ix.notes2 tx job) ∧ Below w.heap.size w W)
          case first =>
            by_cases h4 : 4000 < out.length
            · have hn2 : Ix.notes2 tx job = Ix.notes1 tx job ++ [(3, job ++ Ix.ind)] := by unfold Ix.notes2; rw [← Hout.out, if_pos h4]
              have Hn2 := Lib.hid hn2; clear hn2
              obtain ⟨fl, hown, hrep⟩ := HN1.out.below (bseq (Below.refl _ wc) Hb.out)
              have Hown := Lib.hid hown; have Hrep := Lib.hid hrep
              clear hown hrep
              have Hom := Lib.hid (show (Ix.notes1 tx job).length + 1 ≤ maxLen by have := HN0.out; unfold maxLen; omega)
              have Ho24 := Lib.hid (show ((Ix.notes1 tx job).length + 1) * 24 ≤ 140737488355328 by have := HN0.out; omega)
              have H0W := Lib.hid (show w.heap.size ≤ wr.heap.size by have := HC.out.size; have := Hb.out.size; omega)
              go_wp2_with (at_builtin; go_loud (refine wpList_append1 rfl (.tmp 59) (.tmp 63) 26 rfl w.heap.size 67 i0 (.agg #[.int .i64 0, .string ⟨#[]⟩]) 2 24 Tryz.underlying26 Hi.out Hz0.out Hz1.out Hz2.out rfl (by decide) _ _ _ Hown.out rfl [.int .i64 3, .string ⟨(job ++ Ix.ind).toArray⟩] rfl (by simp) rfl (by simp [Value.oneCell']) Hom.out Ho24.out H0W.out ?_); intro v2 w9 own2 g2 at2; obtain ⟨p2, cap2, hv2, _⟩ := own2.form (Nat.succ_pos _); subst hv2)
              go_meet
              rw [Hn2.out]
              exact ⟨_, _, by rw [List.length_append]; rfl, ⟨_, by rw [List.length_append]; exact own2, RepRow.snoc (R := RNote) (x := ((3 : Int), job ++ Ix.ind)) (vs := [.int .i64 3, .string ⟨(job ++ Ix.ind).toArray⟩]) rfl Hrep.out⟩, (HC.out.trans (Hb.out.mono HC.out.size)).grown g2 H0W.out (fun q e => (World.ownsRow.lt Hown.out q e).1)⟩
            · have hn2 : Ix.notes2 tx job = Ix.notes1 tx job := by unfold Ix.notes2; rw [← Hout.out, if_neg h4, List.append_nil]
              have Hn2 := Lib.hid hn2; clear hn2
              go_wp2_with fail
              go_meet
              rw [Hn2.out]
              exact ⟨_, _, rfl, HN1.out.below (bseq (Below.refl _ wc) Hb.out), HC.out.trans (Hb.out.mono HC.out.size)⟩
          case rest =>
            obtain ⟨p2, c2, rfl, hN2, hb2⟩ := hcut
            have hnl : (Ix.notes2 tx job).length ≤ 10002 := by
              unfold Ix.notes2
              rw [List.length_append]
              have h1 := HN0.out
              have h3 : (if 4000 < (Ix.outOf tx).length then [((3 : Int), job ++ Ix.ind)] else []).length ≤ 1 := by split <;> simp
              omega
            have hnx : ∀ x ∈ Ix.notes2 tx job, x.2.length ≤ 100000 := by
              intro x hx
              have hjl := Hj20.out
              unfold Ix.notes2 Ix.notes1 at hx
              rw [← Hes.out] at hx
              rcases List.mem_append.1 hx with hx | hx
              · rcases List.mem_append.1 hx with hx | hx
                · unfold Ix.notes at hx
                  obtain ⟨y, hy, hxy⟩ := List.mem_filterMap.1 hx
                  cases hb : Ix.bad y with
                  | none => rw [hb] at hxy; cases hxy
                  | some e =>
                    rw [hb] at hxy
                    cases hxy
                    have := Hesl.out.2 y hy
                    show y.1.length ≤ 100000
                    omega
                · split at hx
                  · simp at hx
                  · rw [List.mem_singleton] at hx
                    subst hx
                    show (job ++ Ix.idx).length ≤ 100000
                    rw [List.length_append]
                    show job.length + 4 ≤ 100000
                    omega
              · split at hx
                · rw [List.mem_singleton] at hx
                  subst hx
                  show (job ++ Ix.ind).length ≤ 100000
                  rw [List.length_append]
                  show job.length + 4 ≤ 100000
                  omega
                · simp at hx
            have HN2 := Lib.hid (hN2.slice RNote.size (fun _ => True) (fun _ _ => trivial))
            have Hb2 := Lib.hid hb2; have Hnl := Lib.hid hnl; have Hnx := Lib.hid hnx
            clear hN2 hb2 hnl hnx
            go_wp2_with fail
            refine (ix_log (Ix.notes2 tx job) _ _ wc HN2.out (by have := Hnl.out; omega) Hnx.out (HL.out.below Hb2.out).cnt).mono ?_
            rintro e w6 ⟨rfl, hb6⟩
            have Hb6 := Lib.hid hb6; clear hb6
            obtain ⟨lt, hlt⟩ : ∃ t, t = Ix.logText (Ix.notes2 tx job) := ⟨_, rfl⟩
            rw [← hlt]
            have Hlt := Lib.hid hlt; clear hlt
            go_wp2_with (go_at_call 44; refine (ix_head _ _).mono ?_; rintro e w' ⟨rfl, hw'⟩; have hw' := hw'.symm; subst hw')
            have hB : w.heap.size ≤ w6.heap.size := by have := Hb2.out.size; have := Hb6.out.size; omega
            have hz : (w6.alloc (.cells #[.string ⟨(job ++ Ix.ilg).toArray⟩, .string ⟨(lt.take 4000).toArray⟩, .string ⟨(job ++ Ix.ind).toArray⟩, .string ⟨(out.take 4000).toArray⟩] 53)).heap.size = w6.heap.size + 1 := by simp
            have o1 := own_built w6 w.heap.size 53 2 2 [.string ⟨(job ++ Ix.ilg).toArray⟩, .string ⟨(lt.take 4000).toArray⟩, .string ⟨(job ++ Ix.ind).toArray⟩, .string ⟨(out.take 4000).toArray⟩] hB rfl (by unfold maxLen; omega)
            have o2 := own_built (w6.alloc (.cells #[.string ⟨(job ++ Ix.ilg).toArray⟩, .string ⟨(lt.take 4000).toArray⟩, .string ⟨(job ++ Ix.ind).toArray⟩, .string ⟨(out.take 4000).toArray⟩] 53)) w.heap.size 9 1 1 [.string ⟨(job ++ Ix.idx).toArray⟩] (by rw [hz]; omega) rfl (by unfold maxLen; omega)
            rw [hz] at o2
            have hbf : Below w.heap.size w ((w6.alloc (.cells #[.string ⟨(job ++ Ix.ilg).toArray⟩, .string ⟨(lt.take 4000).toArray⟩, .string ⟨(job ++ Ix.ind).toArray⟩, .string ⟨(out.take 4000).toArray⟩] 53)).alloc (.cells #[.string ⟨(job ++ Ix.idx).toArray⟩] 9)) := (bseq Hb2.out Hb6.out).trans ((bseq (below_new _ _) (below_new _ _)).mono hB)
            have O1 := Lib.hid (o1.alloc (.cells #[.string ⟨(job ++ Ix.idx).toArray⟩] 9)); have O2 := Lib.hid o2; have Hbf := Lib.hid hbf
            clear o1 o2 hbf hB hz
            go_ret3
            refine ⟨Hbf.out, ?_⟩
            rw [HR.out]
            refine ⟨.slice (some ⟨w6.heap.size, 0, none⟩) 2 2, .slice (some ⟨w6.heap.size + 1, 0, none⟩) 1 1, by simp, ?_, ?_⟩
            · unfold Ix.filesOf
              rw [← Hlt.out, ← Hout.out]
              exact ⟨_, O1.out, ⟨_, _, rfl, rfl, _, _, rfl, rfl, rfl⟩⟩
            · exact ⟨_, O2.out, ⟨_, _, rfl, rfl, rfl⟩⟩
end Go.Proofs.YthoblbdkmlggbaaGreatDoor
