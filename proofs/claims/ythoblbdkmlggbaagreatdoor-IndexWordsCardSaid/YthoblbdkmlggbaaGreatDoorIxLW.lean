/- The law IndexWords: its plain half, and its walk. -/
import Derived.Test.YthoblbdkmlggbaaGreatDoorIxLO
set_option linter.unusedSimpArgs false
set_option linter.unusedVariables false
namespace Go.Proofs.YthoblbdkmlggbaaGreatDoor
open Go.RowKit
namespace Ix
/-- a text into a list, once -/
def add (l : List (List UInt8)) (s : List UInt8) : List (List UInt8) := if s ∈ l then l else l ++ [s]
theorem mem_add (l : List (List UInt8)) (s t : List UInt8) : t ∈ add l s ↔ t = s ∨ t ∈ l := by
  unfold add
  split
  · next h =>
    constructor
    · exact .inr
    · rintro (rfl | h2)
      · exact h
      · exact h2
  · rw [List.mem_append, List.mem_singleton]
    constructor
    · rintro (h | h)
      · exact .inr h
      · exact .inl h
    · rintro (h | h)
      · exact .inr h
      · exact .inl h
theorem add_nodup (l : List (List UInt8)) (s : List UInt8) (h : l.Nodup) : (add l s).Nodup := by
  unfold add
  split
  · exact h
  · next hs =>
    rw [List.nodup_append]
    refine ⟨h, by simp, ?_⟩
    intro a ha b hb e
    rw [List.mem_singleton] at hb
    subst hb; subst e
    exact hs ha
theorem add_len (l : List (List UInt8)) (s : List UInt8) : (add l s).length ≤ l.length + 1 := by unfold add; split <;> simp
abbrev T3 := UInt8 × UInt8 × UInt8
def mainW (a : UInt8) : List UInt8 := if a.toNat % 4 = 0 then [97] else if a.toNat % 4 = 1 then [66] else if a.toNat % 4 = 2 then [98] else [99]
def sufW (b : UInt8) : List UInt8 := if b.toNat % 3 = 0 then [120] else if b.toNat % 3 = 1 then [88] else [121]
def wordW (x : T3) : List UInt8 := if b3 : x.2.1.toNat % 3 = 0 then mainW x.1 else mainW x.1 ++ 33 :: sufW x.2.1
def entW (x : T3) : En := (wordW x, 1 + (x.2.2.toNat : Int))
def entsW (l : List T3) : List En := (l.take 30).map entW
def stepW (ws : List (List UInt8)) (x : T3) : List (List UInt8) := add (add ws (wordW x)) (mainW x.1)
def wordsW (l : List T3) : List (List UInt8) := (l.take 30).foldl stepW []
theorem mainW_ok (a : UInt8) : mainW a ≠ [] ∧ (∀ c ∈ mainW a, c ≠ 33) ∧ (mainW a).length = 1 := by
  unfold mainW
  split
  · decide
  · split
    · decide
    · split <;> decide
theorem sufW_ok (b : UInt8) : sufW b ≠ [] ∧ (sufW b).length = 1 := by
  unfold sufW
  split
  · decide
  · split <;> decide
theorem cutW (x : T3) : cut (wordW x) = if x.2.1.toNat % 3 = 0 then (mainW x.1, [], false) else (mainW x.1, sufW x.2.1, true) := by
  unfold wordW
  have h := mainW_ok x.1
  split
  · exact cut_plain _ h.2.1
  · exact cut_of _ _ h.2.1
theorem badW (x : T3) : bad (entW x) = none := by
  have h := mainW_ok x.1
  have h2 := sufW_ok x.2.1
  have hb := x.2.2.toNat_lt
  unfold bad
  rw [if_pos (show page (entW x).2 = true by unfold entW page; simp; omega)]
  rw [if_neg]
  show ¬ ((cut (wordW x)).1 = [] ∨ (cut (wordW x)).2.2 = true ∧ (cut (wordW x)).2.1 = [])
  rw [cutW]
  split
  · simp [h.1]
  · simp [h.1, h2.1]
theorem goodW (l : List T3) : good (entsW l) = entsW l := by
  unfold good entsW
  rw [List.filter_eq_self]
  intro x hx
  obtain ⟨y, _, rfl⟩ := List.mem_map.1 hx
  rw [badW]; rfl
theorem notesW (l : List T3) : notes (entsW l) = [] := by
  unfold notes entsW
  rw [List.filterMap_eq_nil_iff]
  intro x hx
  obtain ⟨y, _, rfl⟩ := List.mem_map.1 hx
  rw [badW]; rfl
/-- the word that a place is -/
def wd (p : Pl) : List UInt8 := p.1 ++ (if p.2.2 then 33 :: p.2.1 else [])
theorem wd_cut (x : T3) : wd (cut (wordW x)) = wordW x ∧ wd (top (cut (wordW x))) = mainW x.1 := by
  rw [cutW]
  unfold wd wordW top
  by_cases h : x.2.1.toNat % 3 = 0
  · simp [h]
  · simp [h]
theorem wordsW_fold : ∀ (l : List T3) (ws : List (List UInt8)), ws.Nodup → (l.foldl stepW ws).Nodup ∧ ∀ t, t ∈ l.foldl stepW ws ↔ t ∈ ws ∨ ∃ x ∈ l, t = wordW x ∨ t = mainW x.1
  | [], ws, h => ⟨h, fun t => by simp⟩
  | x :: r, ws, h => by
    have h2 := wordsW_fold r (stepW ws x) (add_nodup _ _ (add_nodup _ _ h))
    refine ⟨h2.1, fun t => ?_⟩
    rw [List.foldl_cons, h2.2 t]
    unfold stepW
    rw [mem_add, mem_add]
    constructor
    · rintro ((rfl | rfl | h3) | ⟨y, hy, h3⟩)
      · exact .inr ⟨x, List.mem_cons_self .., .inr rfl⟩
      · exact .inr ⟨x, List.mem_cons_self .., .inl rfl⟩
      · exact .inl h3
      · exact .inr ⟨y, List.mem_cons_of_mem _ hy, h3⟩
    · rintro (h3 | ⟨y, hy, h3⟩)
      · exact .inl (.inr (.inr h3))
      · rcases List.mem_cons.1 hy with rfl | hy
        · rcases h3 with rfl | rfl
          · exact .inl (.inr (.inl rfl))
          · exact .inl (.inl rfl)
        · exact .inr ⟨y, hy, h3⟩
theorem lines_words (l : List T3) : (lines (entsW l)).length = (wordsW l).length := by
  rw [lines_places, List.length_map]
  have hw := wordsW_fold (l.take 30) [] List.nodup_nil
  have hmem : ∀ p, p ∈ places (entsW l) ↔ ∃ x ∈ l.take 30, p = cut (wordW x) ∨ p = top (cut (wordW x)) := by
    intro p
    rw [mem_places]
    unfold has
    rw [goodW]
    unfold entsW
    constructor
    · rintro ⟨e, he, h⟩
      obtain ⟨x, hx, rfl⟩ := List.mem_map.1 he
      exact ⟨x, hx, h.imp Eq.symm Eq.symm⟩
    · rintro ⟨x, hx, h⟩
      exact ⟨entW x, List.mem_map.2 ⟨x, hx, rfl⟩, h.imp Eq.symm Eq.symm⟩
  have hsub : ∀ t, t ∈ (places (entsW l)).map wd ↔ t ∈ wordsW l := by
    intro t
    unfold wordsW
    rw [hw.2 t, List.mem_map]
    constructor
    · rintro ⟨p, hp, rfl⟩
      obtain ⟨x, hx, h⟩ := (hmem p).1 hp
      refine .inr ⟨x, hx, ?_⟩
      rcases h with rfl | rfl
      · exact .inl (wd_cut x).1
      · exact .inr (wd_cut x).2
    · rintro (h | ⟨x, hx, h⟩)
      · simp at h
      · rcases h with rfl | rfl
        · exact ⟨_, (hmem _).2 ⟨x, hx, .inl rfl⟩, (wd_cut x).1⟩
        · exact ⟨_, (hmem _).2 ⟨x, hx, .inr rfl⟩, (wd_cut x).2⟩
  have hinj : ∀ p ∈ places (entsW l), cut (wd p) = p := by
    intro p hp
    obtain ⟨x, hx, h⟩ := (hmem p).1 hp
    rcases h with rfl | rfl
    · rw [(wd_cut x).1]
    · rw [(wd_cut x).2, cut_plain _ (mainW_ok x.1).2.1, cutW]
      unfold top
      split <;> rfl
  have hnd : ((places (entsW l)).map wd).Nodup := by
    have h1 := Up.nodup ordP (places_up (entsW l))
    unfold List.Nodup
    rw [List.pairwise_map]
    refine List.Pairwise.imp_of_mem (fun {a b} ha hb hne e => hne ?_) h1
    rw [← hinj a ha, e, hinj b hb]
  have h1 := nodup_le hnd (fun t ht => (hsub t).1 ht)
  have h2 := nodup_le (show (wordsW l).Nodup from hw.1) (fun t ht => (hsub t).2 ht)
  rw [List.length_map] at h1 h2
  omega
end Ix
theorem b33 : (⟨#[33]⟩ : ByteArray) = ⟨[33].toArray⟩ := rfl
theorem grown_refl (w : World) (row : Option Nat) : w.grownBy w row := ⟨rfl, rfl, rfl, Nat.le_refl _, fun _ _ _ => rfl⟩
set_option maxRecDepth 100000 in
set_option maxHeartbeats 3200000 in
theorem law19_once (l : List (List UInt8)) (s : List UInt8) (v : Value) (B : Nat) (w : World) (hO : OwnL B 9 1 RStr w v l) (hB : B ≤ w.heap.size) (hl : l.length ≤ 1000) :
    Calls Tryz.prog 18 #[v, .string ⟨s.toArray⟩] w fun e w' => ∃ v', e = .returned v' ∧ OwnL B 9 1 RStr w' v' (Ix.add l s) ∧ w.grownBy w' v.ownBlock := by
  obtain ⟨i0, hi, hz0, hz1, hz2⟩ := info_parts str_info
  have Hi := Lib.hid hi; have Hz0 := Lib.hid hz0; have Hz1 := Lib.hid hz1; have Hz2 := Lib.hid hz2; clear hi hz0 hz1 hz2
  obtain ⟨pa, cap, rfl⟩ := hO.form
  have S1 := Lib.hid (hO.slice RStr.size (fun _ => True) (fun _ _ => trivial))
  have HO := Lib.hid hO; have HB := Lib.hid hB; have Hl := Lib.hid hl
  clear hO hB hl
  go_enter Tryz.func18, Tryz.ntmps18
  go_wp2_with fail
  go_loopw [5] (fun iv wr => ∃ k : Nat, k ≤ l.length ∧ iv = .int .i64 (k : Int) ∧ s ∉ l.take k ∧ wr = w) (fun iv _ => l.length - (intOf iv).toNat)
  case atStart => exact ⟨0, Nat.zero_le _, rfl, by simp, rfl⟩
  case round =>
    obtain ⟨k, hk, rfl, hn, hw⟩ := hrel
    subst hw
    have Hn := Lib.hid hn; clear hn
    by_cases hlt : k < l.length
    · obtain ⟨x, hx⟩ : ∃ x, l[k]? = some x := ⟨_, List.getElem?_eq_getElem hlt⟩
      obtain ⟨p', c', hp', _, _, hat⟩ := S1.out
      simp only [Value.slice.injEq] at hp'
      obtain ⟨rfl, _, rfl⟩ := hp'
      obtain ⟨b, off, vs, rfl, _, hbw, hR, hc⟩ := hat k x hx
      have hR := RStr.two hR
      subst hR
      have e0 : wr.cell? ⟨b, off + k, none⟩ = some (.string ⟨x.toArray⟩) := by
        have := hc 0 _ rfl
        rwa [Nat.mul_one, Nat.add_zero] at this
      have hlt' : (k : Int) < (l.length : Int) := by omega
      have hkl : (k : Int) + 1 ≤ 9223372036854775807 := by have := Hl.out; omega
      have Hx := Lib.hid hx; have Hlt := Lib.hid hlt
      clear hat hc hx hlt
      cases hs : (x == s)
      · have hn2 : s ∉ l.take (k + 1) := by
          rw [List.take_add_one, Hx.out]
          intro h
          rcases List.mem_append.1 h with h | h
          · exact Hn.out h
          · simp at h
            rw [h] at hs
            simp at hs
        have Hn2 := Lib.hid hn2; clear hn2
        go_wp2_with fail
        go_roundw
        case rel => exact ⟨k + 1, by have := Hlt.out; omega, by go_num, Hn2.out, trivial⟩
        case measure => have := Hlt.out; simp [intOf]; omega
      · obtain rfl := eq_of_beq hs
        clear hs
        have Hm := Lib.hid (show Ix.add l x = l by unfold Ix.add; rw [if_pos (List.mem_of_getElem? Hx.out)])
        go_wp2_with fail
        go_ret
        exact ⟨_, rfl, Hm.out.symm ▸ HO.out, grown_refl _ _⟩
    · have he : k = l.length := by omega
      subst he
      have hn := Hn.out
      rw [List.take_length] at hn
      have Hm := Lib.hid (show Ix.add l s = l ++ [s] by unfold Ix.add; rw [if_neg hn])
      obtain ⟨fl, hown, hrep⟩ := HO.out
      have Hown := Lib.hid hown; have Hrep := Lib.hid hrep
      have Hm1 := Lib.hid (show l.length + 1 ≤ maxLen by have := Hl.out; unfold maxLen; omega)
      have Hn1 := Lib.hid (show (l.length + 1) * 16 ≤ 140737488355328 by have := Hl.out; omega)
      clear hn hown hrep hlt hk
      go_wp2_with (at_builtin; go_loud (refine wpList_append1 rfl (.tmp 19) (.tmp 21) 25 rfl B 9 i0 (.string ⟨#[]⟩) 1 16 Tryz.underlying25 Hi.out Hz0.out Hz1.out Hz2.out rfl (by decide) _ _ _ Hown.out rfl [.string ⟨s.toArray⟩] rfl (by simp) rfl (by simp [Value.oneCell']) Hm1.out Hn1.out HB.out ?_); intro v2 w9 own2 g2 at2; obtain ⟨p2, cap2, hv2, _⟩ := own2.form (Nat.succ_pos _); subst hv2)
      go_ret
      refine ⟨_, rfl, ?_, g2⟩
      rw [Hm.out]
      exact ⟨_, by rw [List.length_append]; exact own2, RepRow.snoc (R := RStr) (vs := [.string ⟨s.toArray⟩]) rfl Hrep.out⟩
def IT3 (x : Ix.T3) (vs : List Value) : Prop := vs = [.int .u8 (x.1.toNat : Int), .int .u8 (x.2.1.toNat : Int), .int .u8 (x.2.2.toNat : Int)]
theorem Ix.entsW_snoc (l : List Ix.T3) (k : Nat) (x : Ix.T3) (h : l[k]? = some x) (hk : k < 30) : Ix.entsW (l.take (k + 1)) = Ix.entsW (l.take k) ++ [Ix.entW x] ∧ Ix.wordsW (l.take (k + 1)) = Ix.add (Ix.add (Ix.wordsW (l.take k)) (Ix.wordW x)) (Ix.mainW x.1) := by
  have h1 : l.take (k + 1) = l.take k ++ [x] := by rw [List.take_add_one, h]; rfl
  unfold Ix.entsW Ix.wordsW
  rw [List.take_take, List.take_take, show min 30 (k + 1) = k + 1 by omega, show min 30 k = k by omega, h1, List.map_append, List.foldl_append]
  exact ⟨rfl, rfl⟩
theorem Ix.entsW_take (l : List Ix.T3) (k : Nat) (h : k = 30 ∨ k = l.length) : Ix.entsW (l.take k) = Ix.entsW l ∧ Ix.wordsW (l.take k) = Ix.wordsW l := by
  have h1 : (l.take k).take 30 = l.take 30 := by
    rw [List.take_take]
    rcases h with rfl | rfl
    · rfl
    · rcases Nat.le_total 30 l.length with h | h
      · rw [Nat.min_eq_left h]
      · rw [Nat.min_eq_right h, List.take_length, List.take_of_length_le h]
  unfold Ix.entsW Ix.wordsW
  rw [h1]
  exact ⟨rfl, rfl⟩
theorem Ix.entsW_len (l : List Ix.T3) : (Ix.entsW l).length ≤ 30 := by unfold Ix.entsW; rw [List.length_map, List.length_take]; omega
theorem Ix.entsW_word (l : List Ix.T3) : ∀ x ∈ Ix.entsW l, x.1.length ≤ 60 := by
  intro x hx
  unfold Ix.entsW at hx
  obtain ⟨y, _, rfl⟩ := List.mem_map.1 hx
  show (Ix.wordW y).length ≤ 60
  unfold Ix.wordW
  have h1 := (Ix.mainW_ok y.1).2.2
  have h2 := (Ix.sufW_ok y.2.1).2
  split
  · omega
  · rw [List.length_append, List.length_cons, h1, h2]; omega
theorem Ix.wordsW_len (l : List Ix.T3) : (Ix.wordsW l).length ≤ 60 := by
  have h : ∀ (q : List Ix.T3) (ws : List (List UInt8)), (q.foldl Ix.stepW ws).length ≤ ws.length + 2 * q.length := by
    intro q
    induction q with
    | nil => intro ws; simp
    | cons a r ih =>
      intro ws
      rw [List.foldl_cons]
      have h1 := ih (Ix.stepW ws a)
      have h2 := Ix.add_len ws (Ix.wordW a)
      have h3 := Ix.add_len (Ix.add ws (Ix.wordW a)) (Ix.mainW a.1)
      unfold Ix.stepW at h1 ⊢
      rw [List.length_cons]
      omega
  have h1 := h (l.take 30) []
  have h2 : (l.take 30).length ≤ 30 := by rw [List.length_take]; omega
  unfold Ix.wordsW
  simp at h1
  omega
set_option maxRecDepth 100000 in
set_option maxHeartbeats 3200000 in
theorem lawIxWrd_walk (p : Option Addr) (cap : Nat) (l : List Ix.T3) (w : World) (hH : Laid10 w ∧ l.length ≤ maxLen) (hE : OSl 3 IT3 w p l) :
    Calls Tryz.prog 6 #[.slice p l.length cap] w fun e w' => e = .returned (.bool true) ∧ Below w.heap.size w w' := by
  obtain ⟨i0, hi, hz0, hz1, hz2⟩ := info_parts en_info
  have Hi := Lib.hid hi; have Hz0 := Lib.hid hz0; have Hz1 := Lib.hid hz1; have Hz2 := Lib.hid hz2; clear hi hz0 hz1 hz2
  have HL := Lib.hid hH.1
  have Hat := Lib.hid hE
  have Hlm := Lib.hid hH.2
  clear hH hE
  have hz1 : (w.alloc (.cells #[] 38)).heap.size = w.heap.size + 1 := by simp
  have OE := Lib.hid ((OwnL.made w.heap.size 38 2 REn w (Nat.le_refl _)).below (below_new (w.alloc (.cells #[] 38)) (.cells #[] 9)))
  have OS := OwnL.made w.heap.size 9 1 RStr (w.alloc (.cells #[] 38)) (by rw [hz1]; omega)
  rw [hz1] at OS
  have OS := Lib.hid OS
  have B0 := Lib.hid ((below_new w (.cells #[] 38)).trans ((below_new (w.alloc (.cells #[] 38)) (.cells #[] 9)).mono (by rw [hz1]; omega)))
  clear hz1
  go_enter Tryz.func6, Tryz.ntmps6
  go_wp2_with fail
  go_loopw [3, 4, 5] (fun ev sv iv wr => ∃ k : Nat, k ≤ l.length ∧ k ≤ 30 ∧ iv = .int .i64 (k : Int) ∧ OwnL w.heap.size 38 2 REn wr ev (Ix.entsW (l.take k)) ∧ OwnL w.heap.size 9 1 RStr wr sv (Ix.wordsW (l.take k)) ∧ Below w.heap.size w wr) (fun _ _ iv _ => l.length - (intOf iv).toNat)
  case atStart => exact ⟨0, Nat.zero_le _, Nat.zero_le _, rfl, OE.out, OS.out, B0.out⟩
  case round =>
    clear OE OS B0
    obtain ⟨k, hk, hk30, rfl, hE, hS, hb⟩ := hrel
    obtain ⟨pe, ce, rfl⟩ := hE.form
    obtain ⟨ps, cs, rfl⟩ := hS.form
    have HE := Lib.hid hE; have HS := Lib.hid hS; have Hb := Lib.hid hb
    clear hE hS hb
    by_cases hlt : k < l.length
    · by_cases h30 : k < 30
      · obtain ⟨x, hx⟩ : ∃ x, l[k]? = some x := ⟨_, List.getElem?_eq_getElem hlt⟩
        obtain ⟨hsn1, hsn2⟩ := Ix.entsW_snoc l k x hx h30
        obtain ⟨L, hL⟩ : ∃ L, L = Ix.entsW (l.take k) := ⟨_, rfl⟩
        obtain ⟨Q, hQ⟩ : ∃ Q, Q = Ix.wordsW (l.take k) := ⟨_, rfl⟩
        have hLn : L.length ≤ 30 := by rw [hL]; exact Ix.entsW_len _
        have hQn : Q.length ≤ 60 := by rw [hQ]; exact Ix.wordsW_len _
        rw [← hL] at HE hsn1 ⊢
        rw [← hQ] at HS hsn2 ⊢
        obtain ⟨a, b, o, sp, vs, rfl, hadr, hbw, hR, hc⟩ := Hat.out k x hx
        have hR : vs = _ := hR
        subst hR
        obtain ⟨xa, xb, xc⟩ := x
        have e0 : wr.cell? ⟨b, o, sp⟩ = some (.int .u8 (xa.toNat : Int)) := (Hb.out.cell (p := ⟨b, o, sp⟩) hbw).trans (hc 0 _ rfl)
        have e1 : wr.cell? ⟨b, o + 1, none⟩ = some (.int .u8 (xb.toNat : Int)) := (Hb.out.cell (p := ⟨b, o + 1, none⟩) hbw).trans (hc 1 _ rfl)
        have e2 : wr.cell? ⟨b, o + 2, none⟩ = some (.int .u8 (xc.toNat : Int)) := (Hb.out.cell (p := ⟨b, o + 2, none⟩) hbw).trans (hc 2 _ rfl)
        have hlt' : (k : Int) < (l.length : Int) := by omega
        have h30' : (k : Int) < 30 := by omega
        have Hsn1 := Lib.hid hsn1; have Hsn2 := Lib.hid hsn2; have HLn := Lib.hid hLn; have HQn := Lib.hid hQn; have Hbw := Lib.hid hbw; have Hc0 := Lib.hid (hc 0 _ rfl); have Hc1 := Lib.hid (hc 1 _ rfl); have Hc2 := Lib.hid (hc 2 _ rfl); have Hlt := Lib.hid hlt; have H30 := Lib.hid h30
        clear hsn1 hsn2 hLn hQn hc hx hbw hlt h30 hL hQ
        have hbr : b < wr.heap.size := by have := Hb.out.size; have := Hbw.out; omega
        have Hbr := Lib.hid hbr
        have Ha := below_new wr (.cells #[.string ⟨#[97]⟩, .string ⟨#[66]⟩, .string ⟨#[98]⟩, .string ⟨#[99]⟩] 9)
        have g0 := (Ha.cell (p := ⟨b, o, sp⟩) hbr).trans e0
        have g1 := (Ha.cell (p := ⟨b, o + 1, none⟩) hbr).trans e1
        have g2 := (Ha.cell (p := ⟨b, o + 2, none⟩) hbr).trans e2
        obtain ⟨m, hm⟩ : ∃ m, m = xa.toNat % 4 := ⟨_, rfl⟩
        have hm4 : m < 4 := by omega
        have hrm : (xa.toNat : Int).tmod 4 = (m : Int) := by rw [Int.tmod_eq_emod_of_nonneg (by omega)]; omega
        have hm4' : (m : Int) < 4 := by omega
        have hwx : wrap64 (xa.toNat : Int) = (xa.toNat : Int) := by have := xa.toNat_lt; unfold wrap64; omega
        have hpick : [Value.string ⟨#[97]⟩, Value.string ⟨#[66]⟩, Value.string ⟨#[98]⟩, Value.string ⟨#[99]⟩][m]'hm4 = .string ⟨(Ix.mainW xa).toArray⟩ := by
          unfold Ix.mainW
          rw [← hm]
          match m, hm4 with
          | 0, _ => rfl
          | 1, _ => rfl
          | 2, _ => rfl
          | 3, _ => rfl
        have Hm := Lib.hid hm
        have HA := Lib.hid Ha
        clear hm e0 e1 e2 Ha hbr
        go_upto_region 6 with fail
        have hgr : b < (wr.alloc (.cells #[.string ⟨#[97]⟩, .string ⟨#[66]⟩, .string ⟨#[98]⟩, .string ⟨#[99]⟩] 9)).heap.size := Nat.lt_of_lt_of_le Hbr.out HA.out.size
        generalize (wr.alloc (.cells #[.string ⟨#[97]⟩, .string ⟨#[66]⟩, .string ⟨#[98]⟩, .string ⟨#[99]⟩] 9)) = W1 at *
        clear hpick hwx hrm hm4' hm4
        obtain ⟨n, hn⟩ : ∃ n, n = xb.toNat % 3 := ⟨_, rfl⟩
        have hn3 : n < 3 := by omega
        have hrn : (xb.toNat : Int).tmod 3 = (n : Int) := by rw [Int.tmod_eq_emod_of_nonneg (by omega)]; omega
        have hwn : IntKind.u8.wrap (n : Int) = (n : Int) := IntWalk.u8_in _ (by omega)
        have hwy : wrap64 (xb.toNat : Int) = (xb.toNat : Int) := by have := xb.toNat_lt; unfold wrap64; omega
        have Hn := Lib.hid hn; have Hgr := Lib.hid hgr
        clear hn hgr
        go_upto_if 39 with fail
        go_cut [7, 38, 39] from 40 to 52 (fun wv _ _ W => wv = .string ⟨(Ix.wordW (xa, xb, xc)).toArray⟩ ∧ Below W1.heap.size W1 W)
        case first =>
          by_cases hz : n = 0
          · have hw0 : Ix.wordW (xa, xb, xc) = Ix.mainW xa := by unfold Ix.wordW; exact dif_pos (by rw [← Hn.out]; exact hz)
            have Hw0 := Lib.hid hw0; clear hw0
            have hd : ¬ 0 < n := by omega
            have Hz := Lib.hid hz; clear hz
            go_wp2_with fail
            go_meet
            exact ⟨by rw [Hw0.out], Below.refl _ _⟩
          · have hw0 : Ix.wordW (xa, xb, xc) = Ix.mainW xa ++ ([33] ++ Ix.sufW xb) := by unfold Ix.wordW; exact dif_neg (by rw [← Hn.out]; exact hz)
            have Hw0 := Lib.hid hw0; clear hw0
            have hd : (0 : Int) < (n : Int) := by omega
            have hn3' : (n : Int) < 3 := by omega
            have hpick : [Value.string ⟨#[120]⟩, Value.string ⟨#[88]⟩, Value.string ⟨#[121]⟩][n]'hn3 = .string ⟨(Ix.sufW xb).toArray⟩ := by
              unfold Ix.sufW
              rw [← Hn.out]
              match n, hn3 with
              | 0, _ => rfl
              | 1, _ => rfl
              | 2, _ => rfl
            have Hz := Lib.hid hz; clear hz
            have hb2 := below_new W1 (.cells #[.string ⟨#[120]⟩, .string ⟨#[88]⟩, .string ⟨#[121]⟩] 9)
            have k1 := (hb2.cell (p := ⟨b, o + 1, none⟩) Hgr.out).trans g1
            have Hb2 := Lib.hid hb2; clear hb2
            have hl1 := (Ix.mainW_ok xa).2.2
            have hl2 := (Ix.sufW_ok xb).2
            have hq1 : ¬ 9223372036854775807 < 1 + (Ix.sufW xb).length := by omega
            have hq2 : ¬ 9223372036854775807 < (Ix.mainW xa).length + (1 + (Ix.sufW xb).length) := by omega
            clear hl1 hl2
            go_wp2_with fail
            go_meet
            refine ⟨?_, Hb2.out⟩
            rw [Hw0.out, b33, append_data, append_data]
        case rest =>
          obtain ⟨rfl, hbc⟩ := hcut
          obtain ⟨wd, hwd⟩ : ∃ wd, wd = Ix.wordW (xa, xb, xc) := ⟨_, rfl⟩
          obtain ⟨mn, hmn⟩ : ∃ mn, mn = Ix.mainW xa := ⟨_, rfl⟩
          have hk2 := (hbc.cell (p := ⟨b, o + 2, none⟩) Hgr.out).trans g2
          have Bc := Lib.hid (Hb.out.trans ((bseq HA.out hbc).mono Hb.out.size))
          have hOE := (HE.out.below HA.out).below hbc
          have hOS := (HS.out.below HA.out).below hbc
          obtain ⟨fl, hown, hrep⟩ := hOE
          have Hown := Lib.hid hown; have Hrep := Lib.hid hrep; have HOS := Lib.hid hOS
          have Hm1 := Lib.hid (show L.length + 1 ≤ maxLen by have := HLn.out; unfold maxLen; omega)
          have Hn1 := Lib.hid (show (L.length + 1) * 24 ≤ 140737488355328 by have := HLn.out; omega)
          have H0W := Lib.hid Bc.out.size
          have hcl := xc.toNat_lt
          obtain ⟨c, hc⟩ : ∃ c, c = xc.toNat := ⟨_, rfl⟩
          have hwc : wrap64 (c : Int) = (c : Int) := by unfold wrap64; omega
          have hwc1 : wrap64 (1 + (c : Int)) = 1 + (c : Int) := by unfold wrap64; omega
          rw [← hc] at hk2
          rw [← hwd, ← hmn]
          have Hwd := Lib.hid hwd; have Hmn := Lib.hid hmn; have Hc := Lib.hid hc
          clear hown hrep hOS hwd hmn hc hcl hbc g0 g1 g2 HE HS
          go_wp2_with (at_builtin; go_loud (refine wpList_append1 rfl (.tmp 53) (.tmp 63) 23 rfl w.heap.size 38 i0 (.agg #[.string ⟨#[]⟩, .int .i64 0]) 2 24 Tryz.underlying23 Hi.out Hz0.out Hz1.out Hz2.out rfl (by decide) _ _ _ Hown.out rfl [.string ⟨wd.toArray⟩, .int .i64 (1 + (c : Int))] rfl (by simp) rfl (by simp [Value.oneCell']) Hm1.out Hn1.out H0W.out ?_); intro v2 w9 own2 g2 at2; obtain ⟨p2, cap2, hv2, _⟩ := own2.form (Nat.succ_pos _); subst hv2)
          obtain ⟨fs, hso, hsr⟩ := HOS.out
          have hso9 := hso.kept g2 (own_apart hso Hown.out (by decide))
          have hb9 := Bc.out.grown g2 H0W.out (fun q e => (World.ownsRow.lt Hown.out q e).1)
          have O9 := Lib.hid own2; have B9 := Lib.hid hb9
          have S9 := Lib.hid (show OwnL w.heap.size 9 1 RStr w9 (.slice ps Q.length cs) Q from ⟨fs, hso9, hsr⟩)
          clear hso hsr hso9 own2 g2 at2 hb9
          refine (law19_once Q wd _ w.heap.size w9 S9.out B9.out.size (by have := HQn.out; omega)).mono ?_
          rintro e w10 ⟨v10, rfl, hS10, hg10⟩
          obtain ⟨p10, c10, rfl⟩ := hS10.form
          have hO10 : w10.ownsRow w.heap.size 38 2 (.slice (some ⟨p2, 0, none⟩) (L.length + 1) cap2) (L.length + 1) (fl ++ [.string ⟨wd.toArray⟩, .int .i64 (1 + (c : Int))]) := by
            obtain ⟨fs, hso, hsr⟩ := S9.out
            exact O9.out.kept hg10 (own_apart O9.out hso (by decide))
          have hb10 : Below w.heap.size w w10 := by
            obtain ⟨fs, hso, hsr⟩ := S9.out
            exact B9.out.grown hg10 B9.out.size (fun q e => (World.ownsRow.lt hso q e).1)
          have O10 := Lib.hid hO10; have B10 := Lib.hid hb10; have S10 := Lib.hid hS10
          clear hO10 hb10 hS10 hg10
          go_wp2_with fail
          refine (law19_once (Ix.add Q wd) mn _ w.heap.size w10 S10.out B10.out.size (by have h1 := HQn.out; have h2 := Ix.add_len Q wd; omega)).mono ?_
          rintro e w11 ⟨v11, rfl, hS11, hg11⟩
          obtain ⟨p11, c11, rfl⟩ := hS11.form
          have hO11 : w11.ownsRow w.heap.size 38 2 (.slice (some ⟨p2, 0, none⟩) (L.length + 1) cap2) (L.length + 1) (fl ++ [.string ⟨wd.toArray⟩, .int .i64 (1 + (c : Int))]) := by
            obtain ⟨fs, hso, hsr⟩ := S10.out
            exact O10.out.kept hg11 (own_apart O10.out hso (by decide))
          have hb11 : Below w.heap.size w w11 := by
            obtain ⟨fs, hso, hsr⟩ := S10.out
            exact B10.out.grown hg11 B10.out.size (fun q e => (World.ownsRow.lt hso q e).1)
          have O11 := Lib.hid hO11; have B11 := Lib.hid hb11; have S11 := Lib.hid hS11
          clear hO11 hb11 hS11 hg11
          obtain ⟨k1, hk1⟩ : ∃ k1, k1 = k + 1 := ⟨_, rfl⟩
          have hkl : (k : Int) + 1 ≤ 9223372036854775807 := by omega
          have Hk1 := Lib.hid hk1; clear hk1
          go_wp2_with fail
          go_roundw
          case rel =>
            refine ⟨k1, by have := Hlt.out; have := Hk1.out; omega, by have := H30.out; have := Hk1.out; omega, congrArg (Value.int .i64) (by have := Hk1.out; omega), ?_, ?_, B11.out⟩
            · rw [Hk1.out, Hsn1.out]
              exact ⟨_, by rw [List.length_append]; exact O11.out, RepRow.snoc (R := REn) (x := Ix.entW (xa, xb, xc)) (vs := [.string ⟨wd.toArray⟩, .int .i64 (1 + (c : Int))]) (by rw [Hwd.out, Hc.out]; rfl) Hrep.out⟩
            · rw [Hk1.out, Hsn2.out, ← Hwd.out, ← Hmn.out]
              exact S11.out
          case measure => have := Hlt.out; simp [intOf]; omega
      · have he : k = 30 := by omega
        subst he
        have h30' : (30 : Int) < (l.length : Int) := by omega
        clear hlt h30 hk hk30
        have Ht := Lib.hid (Ix.entsW_take l 30 (.inl rfl))
        rw [Ht.out.1] at HE ⊢
        rw [Ht.out.2] at HS ⊢
        obtain ⟨N, hN⟩ : ∃ N, N = (Ix.wordsW l).length := ⟨_, rfl⟩
        have hlw := Ix.lines_words l
        rw [← hN] at hlw ⊢
        have Hlw := Lib.hid hlw
        have Hel := Lib.hid (Ix.entsW_len l)
        clear hlw hN
        go_wp2_with fail
        refine (ix_Lines (Ix.entsW l) _ _ wr (HE.out.slice REn.size (fun _ => True) (fun _ _ => trivial)) (by have := Hel.out; omega) (fun x hx => by have := Ix.entsW_word l x hx; omega) (HL.out.below Hb.out).cnt).mono ?_
        rw [Ix.notesW]
        rintro e w3 ⟨vl, vn, rfl, hLi, hNo, hb3⟩
        obtain ⟨pl, cl, rfl⟩ := hLi.form
        obtain ⟨pn, cn, rfl⟩ := hNo.form
        rw [Hlw.out]
        have B3 := Lib.hid (bseq Hb.out hb3)
        clear hLi hNo hb3
        go_wp2_with fail
        refine (law19_fixed w3 (HL.out.below B3.out)).mono ?_
        rintro e w5 ⟨rfl, hb5⟩
        have B5 := Lib.hid (bseq B3.out hb5); clear hb5
        go_wp2_with fail
        go_ret
        exact ⟨rfl, B5.out⟩
    · have he : k = l.length := by omega
      subst he
      clear hlt hk hk30
      have Ht := Lib.hid (Ix.entsW_take l l.length (.inr rfl))
      rw [Ht.out.1] at HE ⊢
      rw [Ht.out.2] at HS ⊢
      obtain ⟨N, hN⟩ : ∃ N, N = (Ix.wordsW l).length := ⟨_, rfl⟩
      have hlw := Ix.lines_words l
      rw [← hN] at hlw ⊢
      have Hlw := Lib.hid hlw
      have Hel := Lib.hid (Ix.entsW_len l)
      clear hlw hN
      go_wp2_with fail
      refine (ix_Lines (Ix.entsW l) _ _ wr (HE.out.slice REn.size (fun _ => True) (fun _ _ => trivial)) (by have := Hel.out; omega) (fun x hx => by have := Ix.entsW_word l x hx; omega) (HL.out.below Hb.out).cnt).mono ?_
      rw [Ix.notesW]
      rintro e w3 ⟨vl, vn, rfl, hLi, hNo, hb3⟩
      obtain ⟨pl, cl, rfl⟩ := hLi.form
      obtain ⟨pn, cn, rfl⟩ := hNo.form
      rw [Hlw.out]
      have B3 := Lib.hid (bseq Hb.out hb3)
      clear hLi hNo hb3
      go_wp2_with fail
      refine (law19_fixed w3 (HL.out.below B3.out)).mono ?_
      rintro e w5 ⟨rfl, hb5⟩
      have B5 := Lib.hid (bseq B3.out hb5); clear hb5
      go_wp2_with fail
      go_ret
      exact ⟨rfl, B5.out⟩
end Go.Proofs.YthoblbdkmlggbaaGreatDoor
