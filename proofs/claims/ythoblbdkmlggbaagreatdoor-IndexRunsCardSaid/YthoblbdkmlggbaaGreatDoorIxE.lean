/- The walks of index's log, and of its entries. -/
import Derived.Test.YthoblbdkmlggbaaGreatDoorIxN
import Derived.Test.YthoblbdkmlggbaaGreatDoorIxF
import Derived.OrdersHeld
import Derived.Deep.RegionHeld
set_option linter.unusedSimpArgs false
set_option linter.unusedVariables false
namespace Go.Proofs.YthoblbdkmlggbaaGreatDoor
open Go.RowKit
attribute [local go_sem] Oper.semAt_some
namespace Ix
def logText (ns : List (Int × List UInt8)) : List UInt8 := ns.flatMap fun x => (dig x.1 ++ [32] ++ x.2) ++ [10]
theorem logText_snoc (ns : List (Int × List UInt8)) (x : Int × List UInt8) : logText (ns ++ [x]) = logText ns ++ ((dig x.1 ++ [32] ++ x.2) ++ [10]) := by unfold logText; rw [List.flatMap_append]; simp
theorem logText_length : ∀ (ns : List (Int × List UInt8)), (∀ x ∈ ns, x.2.length ≤ 100000) → (logText ns).length ≤ ns.length * 100010
  | [], _ => by simp [logText]
  | a :: r, h => by
    have h1 := logText_length r fun x hx => h x (List.mem_cons_of_mem _ hx)
    have h2 := h a (by simp)
    have h3 := dig_length a.1
    unfold logText at h1 ⊢
    rw [List.flatMap_cons, List.length_append, List.length_cons]
    simp only [List.length_append, List.length_cons, List.length_nil]
    omega
def recE (s : List UInt8) : Option En :=
  match Sd.all s with
  | some [a, b] => if (Cnt.value b 0).2 = 0 then some (a, (Cnt.value b 0).1) else none
  | _ => none
def recsE : List (List UInt8) → Option (List En)
  | [] => some []
  | t :: r => match recE t with | none => none | some x => (recsE r).map (x :: ·)
def entries (s : List UInt8) : Option (List En) := match Sd.all s with | none => none | some ts => recsE ts
theorem recsE_split : ∀ (a b : List (List UInt8)) (out : List En), recsE a = some out → recsE (a ++ b) = (recsE b).map (out ++ ·)
  | [], b, out, h => by
    unfold recsE at h
    cases h
    simp
  | t :: r, b, out, h => by
    unfold recsE at h
    rw [List.cons_append, recsE]
    cases hx : recE t with
    | none => rw [hx] at h; cases h
    | some x =>
      rw [hx] at h
      simp only at h ⊢
      cases hr : recsE r with
      | none => rw [hr] at h; cases h
      | some o =>
        rw [hr] at h
        simp only [Option.map_some, Option.some.injEq] at h
        subst h
        rw [recsE_split r b o hr]
        cases recsE b <;> rfl
theorem recsE_none : ∀ (a b : List (List UInt8)), recsE a = none → recsE (a ++ b) = none
  | [], b, h => by unfold recsE at h; cases h
  | t :: r, b, h => by
    unfold recsE at h
    rw [List.cons_append, recsE]
    cases hx : recE t with
    | none => rfl
    | some x =>
      rw [hx] at h
      simp only at h ⊢
      cases hr : recsE r with
      | none => rw [recsE_none r b hr]; rfl
      | some o => rw [hr] at h; cases h
theorem recsE_len : ∀ (a : List (List UInt8)) (out : List En), recsE a = some out → out.length = a.length
  | [], out, h => by unfold recsE at h; cases h; rfl
  | t :: r, out, h => by
    unfold recsE at h
    cases hx : recE t with
    | none => rw [hx] at h; cases h
    | some x =>
      rw [hx] at h
      simp only at h
      cases hr : recsE r with
      | none => rw [hr] at h; cases h
      | some o =>
        rw [hr] at h
        simp only [Option.map_some, Option.some.injEq] at h
        subst h
        simp [recsE_len r o hr]
end Ix
theorem en_info : (Tryz.prog.info? 38).map (fun i => (i.zero, i.size, i.bytes)) = some (some (.agg #[.string ⟨#[]⟩, .int .i64 0]), 2, 24) := by kernel_rfl
theorem b10 : (⟨#[10]⟩ : ByteArray) = ⟨[10].toArray⟩ := rfl
theorem own_apart {w : World} {b1 b2 s1 s2 n1 n2 : Nat} {t1 t2 : TypeId} {v1 v2 : Value} {x1 x2 : List Value} (h1 : w.ownsRow b1 t1 s1 v1 n1 x1) (h2 : w.ownsRow b2 t2 s2 v2 n2 x2) (ht : t1 ≠ t2) : v1.ownBlock = none ∨ v1.ownBlock ≠ v2.ownBlock := by
  rcases h1.2 with ⟨hv, _⟩ | ⟨g, cap, cur, hv, _, hh, _⟩
  · left; rw [hv]; rfl
  · right
    intro e
    rcases h2.2 with ⟨hv2, _⟩ | ⟨g2, cap2, cur2, hv2, _, hh2, _⟩
    · rw [hv, hv2] at e; cases e
    · rw [hv, hv2] at e
      simp only [Value.ownBlock, Option.some.injEq] at e
      subst e
      rw [hh] at hh2
      simp at hh2
      exact ht hh2.2
set_option maxRecDepth 100000 in
set_option maxHeartbeats 1600000 in
theorem ix_log (ns : List (Int × List UInt8)) (v : Value) (S : Nat → Prop) (w : World) (hS : SliceIn S 2 RNote w v ns) (hn : ns.length ≤ 100000) (hx : ∀ x ∈ ns, x.2.length ≤ 100000) (hL : Laid01 w) :
    Calls Tryz.prog 45 #[v] w fun e w' => e = .returned (.string ⟨(Ix.logText ns).toArray⟩) ∧ Below w.heap.size w w' := by
  obtain ⟨p, cap, rfl, hle, hm, hat⟩ := hS
  have Hat := Lib.hid hat; have HL := Lib.hid hL; have Hx := Lib.hid hx; have Hn := Lib.hid hn
  clear hat hL hx hle hm hn
  go_enter Tryz.func45, Tryz.ntmps45
  go_wp2_with fail
  go_loopw [3, 8] (fun sv iv wr => ∃ k : Nat, k ≤ ns.length ∧ iv = .int .i64 (k : Int) ∧ sv = .string ⟨(Ix.logText (ns.take k)).toArray⟩ ∧ Below w.heap.size w wr) (fun _ iv _ => ns.length - (intOf iv).toNat)
  case atStart => exact ⟨0, Nat.zero_le _, rfl, rfl, Below.refl _ _⟩
  case round =>
    obtain ⟨k, hk, rfl, rfl, hb⟩ := hrel
    have Hb := Lib.hid hb; clear hb
    by_cases hlt : k < ns.length
    · obtain ⟨x, hx⟩ : ∃ x, ns[k]? = some x := ⟨_, List.getElem?_eq_getElem hlt⟩
      have hlt' : (k : Int) < (ns.length : Int) := by omega
      obtain ⟨b, off, vs, rfl, _, hbw, hR, hc⟩ := Hat.out k x hx
      have hR : vs = _ := hR
      subst hR
      have e0 : wr.cell? ⟨b, off + k * 2, none⟩ = some (.int .i64 x.1) := (Hb.out.cell (p := ⟨b, off + k * 2, none⟩) hbw).trans (hc 0 _ rfl)
      have e1 : wr.cell? ⟨b, off + k * 2 + 1, none⟩ = some (.string ⟨x.2.toArray⟩) := (Hb.out.cell (p := ⟨b, off + k * 2 + 1, none⟩) hbw).trans (hc 1 _ rfl)
      have hxm := Hx.out x (List.mem_of_getElem? hx)
      have hsnoc := Ix.take_snoc ns k x hx
      obtain ⟨P, hP⟩ : ∃ P, P = Ix.logText (ns.take k) := ⟨_, rfl⟩
      have hPl : P.length ≤ 10001000000 := by
        have h1 := Ix.logText_length (ns.take k) (fun y hy => Hx.out y (List.mem_of_mem_take hy))
        have h2 : (ns.take k).length ≤ 100000 := by rw [List.length_take]; have := Hn.out; omega
        have h3 : (ns.take k).length * 100010 ≤ 10001000000 := by omega
        rw [hP]
        exact Nat.le_trans h1 h3
      obtain ⟨dg, hdg⟩ : ∃ d, d = Ix.dig x.1 := ⟨_, rfl⟩
      have hdl : dg.length ≤ 6 := by rw [hdg]; exact Ix.dig_length _
      have hnext : Ix.logText (ns.take (k + 1)) = P ++ (((dg ++ [32]) ++ x.2) ++ [10]) := by rw [hsnoc, Ix.logText_snoc, hP, hdg]
      rw [← hP]
      obtain ⟨xe, xs⟩ := x
      simp only at e0 e1 hxm hdg hnext
      have Hnext := Lib.hid hnext; have Hdg := Lib.hid hdg
      have hs0 := hxm
      clear hc hx hsnoc hP hnext hdg
      have hkl : (k : Int) + 1 ≤ 9223372036854775807 := by have := Hn.out; omega
      have hq1 : ¬ 9223372036854775807 < dg.length + 1 := by omega
      have hq2 : ¬ 9223372036854775807 < dg.length + 1 + xs.length := by omega
      have hq3 : ¬ 9223372036854775807 < dg.length + 1 + xs.length + 1 := by omega
      have hq4 : ¬ 9223372036854775807 < P.length + (dg.length + 1 + xs.length + 1) := by omega
      go_upto_region 5 with fail
      refine wp_region_any (by kernel_rfl) ?_
      change wpAny _ _ _ _ _ _ _ (World.drew _)
      have hbn := below_new wr (.cells #[.int .i64 xe, .string ⟨xs.toArray⟩] 67)
      have f0 : (wr.alloc (.cells #[.int .i64 xe, .string ⟨xs.toArray⟩] 67)).drew.cell? ⟨wr.heap.size, 0, none⟩ = some (.int .i64 xe) := by
        have := cell_of_row _ _ 0 _ _ _ (heap_alloc_new wr (.cells #[.int .i64 xe, .string ⟨xs.toArray⟩] 67))
        exact this
      have f1 : (wr.alloc (.cells #[.int .i64 xe, .string ⟨xs.toArray⟩] 67)).drew.cell? ⟨wr.heap.size, 1, none⟩ = some (.string ⟨xs.toArray⟩) := by
        have := cell_of_row _ _ 1 _ _ _ (heap_alloc_new wr (.cells #[.int .i64 xe, .string ⟨xs.toArray⟩] 67))
        exact this
      have hgl : wr.heap.size < (wr.alloc (.cells #[.int .i64 xe, .string ⟨xs.toArray⟩] 67)).drew.heap.size := by simp
      have Hbd := Lib.hid (bseq Hb.out (hbn.trans (Below.refl _ _).drew))
      have HL1 := Lib.hid (HL.out.below Hbd.out)
      clear hbn
      generalize (wr.alloc (.cells #[.int .i64 xe, .string ⟨xs.toArray⟩] 67)).drew = wd at *
      generalize hg : wr.heap.size = g at *
      have F0 := Lib.hid f0; have F1 := Lib.hid f1; have Hgl := Lib.hid hgl
      clear f0 f1 hgl
      have hS0 : Below wd.heap.size wd wd := Below.refl _ _
      refine wpAny_of_held (S := fun W => Below wd.heap.size wd W) _ _ _ _ ?_
      refine wpAnyH_take (i := 0) (v := .string ⟨P.toArray⟩) rfl (by kernel_rfl) (by kernel_rfl) (by kernel_rfl) (fun _ _ _ h => h) (Or.inl ⟨by kernel_rfl, fun W hW => by kernel_rfl⟩) (by assumption) ?_
      try simp only [Act.put, List.getElem_toArray, List.getElem_cons_zero, List.getElem_cons_succ, List.setIfInBounds_toArray, List.set_cons_zero, List.set_cons_succ]
      refine wpAnyH_take (i := 1) (v := .pointer (some ⟨g, 0, none⟩)) rfl (by kernel_rfl) (by kernel_rfl) (by kernel_rfl) (fun _ _ _ h => h) (Or.inl ⟨by kernel_rfl, fun W hW => by go_simp⟩) (by assumption) ?_
      try simp only [Act.put, List.getElem_toArray, List.getElem_cons_zero, List.getElem_cons_succ, List.setIfInBounds_toArray, List.set_cons_zero, List.set_cons_succ]
      refine wpAnyH_take (i := 2) (v := .int .i64 xe) rfl (by kernel_rfl) (by kernel_rfl) (by kernel_rfl) (fun _ _ _ h => h) (Or.inl ⟨by kernel_rfl, fun W hW => by (have c := (hW.cell (p := ⟨g, 0, none⟩) Hgl.out).trans F0.out; go_simp)⟩) (by assumption) ?_
      try simp only [Act.put, List.getElem_toArray, List.getElem_cons_zero, List.getElem_cons_succ, List.setIfInBounds_toArray, List.set_cons_zero, List.set_cons_succ]
      refine wpAnyH_take (i := 5) (v := .pointer (some ⟨g, 1, none⟩)) rfl (by kernel_rfl) (by kernel_rfl) (by kernel_rfl) (fun _ _ _ h => h) (Or.inl ⟨by kernel_rfl, fun W hW => by go_simp⟩) (by assumption) ?_
      try simp only [Act.put, List.getElem_toArray, List.getElem_cons_zero, List.getElem_cons_succ, List.setIfInBounds_toArray, List.set_cons_zero, List.set_cons_succ]
      refine wpAnyH_take (i := 6) (v := .string ⟨xs.toArray⟩) rfl (by kernel_rfl) (by kernel_rfl) (by kernel_rfl) (fun _ _ _ h => h) (Or.inl ⟨by kernel_rfl, fun W hW => by (have c := (hW.cell (p := ⟨g, 1, none⟩) Hgl.out).trans F1.out; go_simp)⟩) (by assumption) ?_
      try simp only [Act.put, List.getElem_toArray, List.getElem_cons_zero, List.getElem_cons_succ, List.setIfInBounds_toArray, List.set_cons_zero, List.set_cons_succ]
      refine wpAnyH_ready (rs := [3]) (by kernel_rfl) (by simp) ?_
      refine AllReadyH.cons rfl (fun K hK => ?_) AllReadyH.nil
      go_simp
      go_wp2_with (go_at_call 36; refine (ix_digits xe _ HL1.out).mono ?_; rw [← Hdg.out]; rintro e w3 ⟨rfl, h3⟩; have H3 := Lib.hid h3; clear h3)
      refine hK.out _ _ (H3.out) (fun _ => ?_)
      clear K hK
      try simp only [Act.put, List.getElem_toArray, List.getElem_cons_zero, List.getElem_cons_succ, List.setIfInBounds_toArray, List.set_cons_zero, List.set_cons_succ]
      refine wpAnyH_take (i := 4) (v := .string (⟨dg.toArray⟩ ++ ⟨#[32]⟩)) rfl (by kernel_rfl) (by kernel_rfl) (by kernel_rfl) (fun _ _ _ h => h) (Or.inl ⟨by kernel_rfl, fun W hW => by go_simp⟩) (by assumption) ?_
      try simp only [Act.put, List.getElem_toArray, List.getElem_cons_zero, List.getElem_cons_succ, List.setIfInBounds_toArray, List.set_cons_zero, List.set_cons_succ]
      refine wpAnyH_take (i := 7) (v := .string ((⟨dg.toArray⟩ ++ ⟨#[32]⟩) ++ ⟨xs.toArray⟩)) rfl (by kernel_rfl) (by kernel_rfl) (by kernel_rfl) (fun _ _ _ h => h) (Or.inl ⟨by kernel_rfl, fun W hW => by go_simp⟩) (by assumption) ?_
      try simp only [Act.put, List.getElem_toArray, List.getElem_cons_zero, List.getElem_cons_succ, List.setIfInBounds_toArray, List.set_cons_zero, List.set_cons_succ]
      refine wpAnyH_take (i := 8) (v := .string (((⟨dg.toArray⟩ ++ ⟨#[32]⟩) ++ ⟨xs.toArray⟩) ++ ⟨#[10]⟩)) rfl (by kernel_rfl) (by kernel_rfl) (by kernel_rfl) (fun _ _ _ h => h) (Or.inl ⟨by kernel_rfl, fun W hW => by go_simp⟩) (by assumption) ?_
      try simp only [Act.put, List.getElem_toArray, List.getElem_cons_zero, List.getElem_cons_succ, List.setIfInBounds_toArray, List.set_cons_zero, List.set_cons_succ]
      refine wpAnyH_take (i := 9) (v := .string (⟨P.toArray⟩ ++ (((⟨dg.toArray⟩ ++ ⟨#[32]⟩) ++ ⟨xs.toArray⟩) ++ ⟨#[10]⟩))) rfl (by kernel_rfl) (by kernel_rfl) (by kernel_rfl) (fun _ _ _ h => h) (Or.inl ⟨by kernel_rfl, fun W hW => by go_simp⟩) (by assumption) ?_
      try simp only [Act.put, List.getElem_toArray, List.getElem_cons_zero, List.getElem_cons_succ, List.setIfInBounds_toArray, List.set_cons_zero, List.set_cons_succ]
      refine wpAnyH_take (i := 10) (v := .string (⟨P.toArray⟩ ++ (((⟨dg.toArray⟩ ++ ⟨#[32]⟩) ++ ⟨xs.toArray⟩) ++ ⟨#[10]⟩))) rfl (by kernel_rfl) (by kernel_rfl) (by kernel_rfl) (fun _ _ _ h => h) (Or.inl ⟨by kernel_rfl, fun W hW => by kernel_rfl⟩) (by assumption) ?_
      try simp only [Act.put, List.getElem_toArray, List.getElem_cons_zero, List.getElem_cons_succ, List.setIfInBounds_toArray, List.set_cons_zero, List.set_cons_succ]
      refine wpAnyH_done (by kernel_rfl) ?_ _
      go_wp2_with fail
      go_roundw
      case rel =>
        refine ⟨k + 1, by omega, by go_num, ?_, bseq Hbd.out H3.out⟩
        rw [Hnext.out, b32, b10, append_data, append_data, append_data, append_data]
      case measure => simp [intOf]; omega
    · have he : k = ns.length := by omega
      subst he
      rw [List.take_length]
      clear hlt hk
      go_wp2_with fail
      go_ret
      exact ⟨rfl, Hb.out⟩
theorem RStr.two {vs : List Value} {x : List UInt8} (h : RStr x vs) : vs = [.string ⟨x.toArray⟩] := h
set_option maxRecDepth 100000 in
set_option maxHeartbeats 3200000 in
theorem ix_entries (s : List UInt8) (w : World) (hL : Laid10 w) (hs : s.length ≤ 100000) :
    Calls Tryz.prog 43 #[.string ⟨s.toArray⟩] w fun e w' => ∃ v, e = .returned (.tuple #[v, .bool (Ix.entries s).isSome]) ∧ OwnL w.heap.size 38 2 REn w' v ((Ix.entries s).getD []) ∧ Below w.heap.size w w' := by
  have HL := Lib.hid hL; have Hs := Lib.hid hs
  clear hL hs
  obtain ⟨i0, hi, hz0, hz1, hz2⟩ := info_parts en_info
  have Hi := Lib.hid hi; have Hz0 := Lib.hid hz0; have Hz1 := Lib.hid hz1; have Hz2 := Lib.hid hz2; clear hi hz0 hz1 hz2
  go_enter Tryz.func43, Tryz.ntmps43
  go_wp2_with fail
  refine (wire_all s _ HL.out (by have := Hs.out; omega)).mono ?_
  unfold AllPost
  rintro e w1 ⟨hb1, hp⟩
  have Hb1 := Lib.hid hb1; clear hb1
  obtain ⟨o, ho⟩ : ∃ o, Sd.all s = o := ⟨_, rfl⟩
  rw [ho] at hp
  have Ho := Lib.hid ho; clear ho
  cases o with
  | none =>
    obtain ⟨er, her1, her2, rfl⟩ := hp
    have HE := Lib.hid (show Ix.entries s = none by unfold Ix.entries; rw [Ho.out])
    have hne : (er == 0) = false := by simp; omega
    clear Ho
    go_wp2_with fail
    go_loopw [6, 19] (fun vo iv wr => vo = .slice none 0 0 ∧ iv = .int .i64 0 ∧ wr = w1) (fun _ _ _ => 0)
    case atStart => exact ⟨rfl, rfl, rfl⟩
    case round =>
      obtain ⟨rfl, rfl, hw⟩ := hrel
      subst hw
      go_wp2_with fail
      go_ret2
      refine ⟨.slice none 0 0, ?_, ?_, Hb1.out⟩
      · rw [HE.out]; simp [hne]
      · rw [HE.out]; exact OwnL.nil _ _ _ _ _
  | some ts =>
    obtain ⟨va, hO, htl, htn, rfl⟩ := hp
    have hEs : Ix.entries s = Ix.recsE ts := by unfold Ix.entries; rw [Ho.out]
    obtain ⟨pa, ca, rfl⟩ := hO.form
    have HEs := Lib.hid hEs; have Htl := Lib.hid htl; have Htn := Lib.hid htn
    have Hat := Lib.hid (hO.slice (fun _ _ h => by rw [RStr.two h]; rfl) (fun _ => True) (fun _ _ => trivial))
    have HO := Lib.hid hO
    clear hEs htl htn hO Ho
    have HL1 := Lib.hid (HL.out.below Hb1.out)
    go_wp2_with fail
    go_loopw [6, 19] (fun vo iv wr => ∃ (k : Nat) (out : List Ix.En), k ≤ ts.length ∧ iv = .int .i64 (k : Int) ∧ OwnL w1.heap.size 38 2 REn wr vo out ∧ Ix.recsE (ts.take k) = some out ∧ Below w1.heap.size w1 wr) (fun _ iv _ => ts.length - (intOf iv).toNat)
    case atStart => exact ⟨0, [], Nat.zero_le _, rfl, OwnL.nil _ _ _ _ _, rfl, Below.refl _ _⟩
    case round =>
      obtain ⟨k, out, hk, rfl, hOo, hrec, hb⟩ := hrel
      obtain ⟨po, co, rfl⟩ := hOo.form
      have HOo := Lib.hid hOo; have Hrec := Lib.hid hrec; have Hb := Lib.hid hb
      clear hOo hrec hb
      by_cases hlt : k < ts.length
      · obtain ⟨t, ht⟩ : ∃ t, ts[k]? = some t := ⟨_, List.getElem?_eq_getElem hlt⟩
        obtain ⟨p', c', hp', _, _, hat⟩ := Hat.out
        simp only [Value.slice.injEq] at hp'
        obtain ⟨rfl, _, rfl⟩ := hp'
        obtain ⟨b, off, vs, rfl, _, hbw, hR, hc⟩ := hat k t ht
        have hR := RStr.two hR
        subst hR
        have e0 : wr.cell? ⟨b, off + k, none⟩ = some (.string ⟨t.toArray⟩) := by
          have := (Hb.out.cell (p := ⟨b, off + (k * 1 + 0), none⟩) hbw).trans (hc 0 _ rfl)
          rwa [Nat.mul_one, Nat.add_zero] at this
        have hlt' : (k : Int) < (ts.length : Int) := by omega
        have htl1 := Htl.out t (List.mem_of_getElem? ht)
        have hsn := take_snoc_eq (a := ts) (b := ts) rfl ht ht
        have hsplit : Ix.recsE (ts.take (k + 1)) = match Ix.recE t with | none => none | some x => some (out ++ [x]) := by
          rw [List.take_add_one, ht]
          show Ix.recsE (ts.take k ++ [t]) = _
          rw [Ix.recsE_split _ _ _ Hrec.out]
          unfold Ix.recsE
          cases Ix.recE t <;> rfl
        have Hsplit := Lib.hid hsplit; have Ht := Lib.hid ht; have Htl1 := Lib.hid htl1; have Hlt := Lib.hid hlt
        have HLr := Lib.hid (HL1.out.below Hb.out)
        clear hsplit ht hc hat hsn htl1 hlt
        go_wp2_with fail
        refine (wire_all t _ HLr.out (by have := Hs.out; have := Htl1.out; omega)).mono ?_
        unfold AllPost
        rintro e w2 ⟨hb2, hp⟩
        have Hb2 := Lib.hid hb2; clear hb2
        obtain ⟨o2, ho2⟩ : ∃ o, Sd.all t = o := ⟨_, rfl⟩
        rw [ho2] at hp
        have Ho2 := Lib.hid ho2; clear ho2
        have bad : Ix.recE t = none → Ix.entries s = none := by
          intro hrn
          rw [HEs.out, show ts = ts.take (k + 1) ++ ts.drop (k + 1) from (List.take_append_drop _ _).symm]
          exact Ix.recsE_none _ _ (by rw [Hsplit.out, hrn])
        have Bad := Lib.hid bad; clear bad
        cases o2 with
        | none =>
          obtain ⟨er, her1, her2, rfl⟩ := hp
          have HE := Lib.hid (Bad.out (by unfold Ix.recE; rw [Ho2.out]))
          have hne : (er == 0) = false := by simp; omega
          clear Ho2 Bad
          go_wp2_with fail
          go_ret2
          refine ⟨.slice none 0 0, ?_, ?_, Hb1.out.trans ((Hb.out.trans (Hb2.out.mono Hb.out.size)).mono Hb1.out.size)⟩
          · rw [HE.out]; simp
          · rw [HE.out]; exact OwnL.nil _ _ _ _ _
        | some ps =>
          obtain ⟨vp, hOp, hpl, hpn, rfl⟩ := hp
          obtain ⟨pp, cp, rfl⟩ := hOp.form
          have Hpl := Lib.hid hpl
          have HatP := Lib.hid (hOp.slice (fun _ _ h => by rw [RStr.two h]; rfl) (fun _ => True) (fun _ _ => trivial))
          clear hOp hpl hpn
          have HL2 := Lib.hid (HLr.out.below Hb2.out)
          by_cases hp2 : ps.length = 2
          · obtain ⟨a, b2, rfl⟩ : ∃ a b2, ps = [a, b2] := by
              match ps, hp2 with
              | [a, b2], _ => exact ⟨a, b2, rfl⟩
            clear hp2
            obtain ⟨p', c', hp', _, _, hat2⟩ := HatP.out
            simp only [Value.slice.injEq] at hp'
            obtain ⟨rfl, _, rfl⟩ := hp'
            obtain ⟨q, qo, vs0, rfl, _, hq0, hR0, hc0⟩ := hat2 0 a rfl
            obtain ⟨q', qo', vs1, hq', _, hq1, hR1, hc1⟩ := hat2 1 b2 rfl
            simp only [Option.some.injEq, Addr.mk.injEq, and_true] at hq'
            obtain ⟨rfl, rfl⟩ := hq'
            have hR0 := RStr.two hR0; have hR1 := RStr.two hR1
            subst hR0; subst hR1
            have c0 : w2.cell? ⟨q, qo, none⟩ = some (.string ⟨a.toArray⟩) := by simpa using hc0 0 _ rfl
            have c1 : w2.cell? ⟨q, qo + 1, none⟩ = some (.string ⟨b2.toArray⟩) := by simpa using hc1 0 _ rfl
            have hbl := Hpl.out b2 (by simp)
            have Hbl := Lib.hid hbl
            clear hat2 hc0 hc1 hbl
            obtain ⟨vn, hvn⟩ : ∃ x, Cnt.value b2 0 = x := ⟨_, rfl⟩
            obtain ⟨n, er⟩ := vn
            have Hvn := Lib.hid hvn; clear hvn
            cases her : (er == 0)
            · have HE := Lib.hid (Bad.out (by unfold Ix.recE; rw [Ho2.out]; simp only; rw [if_neg]; rw [Hvn.out]; simpa using her))
              clear Ho2 Bad
              go_wp2_with fail
              refine (count_value b2 0 _ HL2.out.cnt (by have := Hs.out; have := Htl1.out; have := Hbl.out; omega)).mono ?_
              rw [Hvn.out]
              rintro e w3 ⟨rfl, hb3⟩
              have Hb3 := Lib.hid hb3; clear hb3
              have hne : (er != 0) = true := by simpa [bne] using her
              clear her
              go_wp2_with fail
              go_ret2
              refine ⟨.slice none 0 0, ?_, ?_, Hb1.out.trans ((Hb.out.trans ((Hb2.out.trans (Hb3.out.mono Hb2.out.size)).mono Hb.out.size)).mono Hb1.out.size)⟩
              · rw [HE.out]; simp
              · rw [HE.out]; exact OwnL.nil _ _ _ _ _
            · obtain rfl := eq_of_beq her
              have hrn : Ix.recE t = some (a, n) := by unfold Ix.recE; rw [Ho2.out]; simp only; rw [Hvn.out]; simp
              have Hrn := Lib.hid hrn; clear hrn her Bad Ho2
              go_wp2_with fail
              refine (count_value b2 0 _ HL2.out.cnt (by have := Hs.out; have := Htl1.out; have := Hbl.out; omega)).mono ?_
              rw [Hvn.out]
              rintro e w3 ⟨rfl, hb3⟩
              have d0 := (hb3.cell (p := ⟨q, qo, none⟩) hq0).trans c0
              have hOw : OwnL w1.heap.size 38 2 REn w3 (.slice po out.length co) out := ((HOo.out.below Hb2.out).below hb3)
              obtain ⟨fl, hown, hrep⟩ := hOw
              have Hown := Lib.hid hown; have Hrep := Lib.hid hrep
              have Hb3 := Lib.hid hb3; clear hb3 hown hrep
              have holn : out.length ≤ 100000 := by
                have h1 := Ix.recsE_len _ _ Hrec.out
                rw [List.length_take] at h1
                have := Htn.out; have := Hs.out
                omega
              have Hom := Lib.hid (show out.length + 1 ≤ maxLen by unfold maxLen; omega)
              have Ho24 := Lib.hid (show (out.length + 1) * 24 ≤ 140737488355328 by omega)
              have H0W := Lib.hid (show w1.heap.size ≤ w3.heap.size by have := Hb.out.size; have := Hb2.out.size; have := Hb3.out.size; omega)
              obtain ⟨k1, hk1⟩ : ∃ k1, k1 = k + 1 := ⟨_, rfl⟩
              have hwk : wrap64 ((k : Int) + 1) = (k1 : Int) := by unfold wrap64; have := Hlt.out; have := Htn.out; have := Hs.out; omega
              have Hk1 := Lib.hid hk1
              clear holn hk1
              go_wp2_with (at_builtin; go_loud (refine wpList_append1 rfl (.tmp 44) (.tmp 50) 23 rfl w1.heap.size 38 i0 (.agg #[.string ⟨#[]⟩, .int .i64 0]) 2 24 Tryz.underlying23 Hi.out Hz0.out Hz1.out Hz2.out rfl (by decide) _ _ _ Hown.out rfl [.string ⟨a.toArray⟩, .int .i64 n] rfl (by simp) rfl (by simp [Value.oneCell']) Hom.out Ho24.out H0W.out ?_); intro v2 w9 own2 g2 at2; obtain ⟨p2, cap2, hv2, _⟩ := own2.form (Nat.succ_pos _); subst hv2)
              go_roundw
              case rel =>
                refine ⟨k1, out ++ [(a, n)], by have := Hlt.out; have := Hk1.out; omega, by rw [hwk], ?_, ?_, ?_⟩
                · exact ⟨_, by rw [List.length_append]; exact own2, RepRow.snoc (R := REn) (x := (a, n)) (vs := [.string ⟨a.toArray⟩, .int .i64 n]) rfl Hrep.out⟩
                · rw [Hk1.out, Hsplit.out, Hrn.out]
                · exact (Hb.out.trans ((Hb2.out.trans (Hb3.out.mono Hb2.out.size)).mono Hb.out.size)).grown g2 H0W.out (fun q e => (World.ownsRow.lt Hown.out q e).1)
              case measure => have := Hlt.out; have := Hk1.out; rw [hwk]; simp [intOf]; omega
          · have HE := Lib.hid (Bad.out (by unfold Ix.recE; rw [Ho2.out]; match ps, hp2 with | [], _ => rfl | [_], _ => rfl | [_, _], h => exact absurd rfl h | _ :: _ :: _ :: _, _ => rfl))
            clear Ho2 Bad
            have hne : (((ps.length : Nat) : Int) != 2) = true := by simp; omega
            have Hne := Lib.hid hp2; clear hp2
            go_wp2_with fail
            go_ret2
            refine ⟨.slice none 0 0, ?_, ?_, Hb1.out.trans ((Hb.out.trans (Hb2.out.mono Hb.out.size)).mono Hb1.out.size)⟩
            · rw [HE.out]; simp
            · rw [HE.out]; exact OwnL.nil _ _ _ _ _
      · have he : k = ts.length := by omega
        subst he
        have hrec := Hrec.out
        rw [List.take_length] at hrec
        have HE := Lib.hid (HEs.out.trans hrec)
        clear hlt hk hrec
        go_wp2_with fail
        go_ret2
        refine ⟨.slice po out.length co, ?_, ?_, Hb1.out.trans (Hb.out.mono Hb1.out.size)⟩
        · rw [HE.out]; simp
        · rw [HE.out]; exact HOo.out.lower Hb1.out.size
end Go.Proofs.YthoblbdkmlggbaaGreatDoor
