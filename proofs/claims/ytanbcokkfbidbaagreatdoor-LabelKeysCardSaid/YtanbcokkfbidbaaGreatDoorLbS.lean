/- The plain law of package label's order: sorting keeps the entries, is done at once, and hangs on no order where no key is there twice. Plain Lean. -/
import Derived.Test.YtanbcokkfbidbaaGreatDoorLbP
import Derived.Test.YtanbcokkfbidbaaGreatDoorCntP
namespace Go.Proofs.YtanbcokkfbidbaaGreatDoor.Lb
open Ent
/-- what a comparison owes -/
structure Good {α : Type} (D : α → Prop) (c : α → α → Int) : Prop where
  eq0 : ∀ a b, D a → D b → c a b = 0 → a = b
  refl : ∀ a, c a a = 0
  anti : ∀ a b, D a → D b → c b a = - c a b
  trans : ∀ a b d, D a → D b → D d → c a b < 0 → c b d < 0 → c a d < 0
theorem u8_lt_tr {a b c : UInt8} (h : a < b) (k : b < c) : a < c := UInt8.lt_trans h k
theorem cmpB_refl : ∀ a : List UInt8, cmpB a a = 0
  | [] => rfl
  | x :: a => by
    unfold cmpB Lib.compareBytes
    rw [if_neg (UInt8.lt_irrefl x), if_neg (UInt8.lt_irrefl x)]
    exact cmpB_refl a
theorem cmpB_cons (x y : UInt8) (a b : List UInt8) : cmpB (x :: a) (y :: b) = if x < y then -1 else if y < x then 1 else cmpB a b := rfl
theorem cmpB_eq0 : ∀ a b : List UInt8, cmpB a b = 0 → a = b
  | [], [], _ => rfl
  | [], _ :: _, h => by simp [cmpB, Lib.compareBytes] at h
  | _ :: _, [], h => by simp [cmpB, Lib.compareBytes] at h
  | x :: a, y :: b, h => by
    rw [cmpB_cons] at h
    split at h
    · omega
    · next h1 =>
      split at h
      · omega
      · next h2 =>
        have : x = y := by
          refine UInt8.le_antisymm (UInt8.not_lt.1 h2) (UInt8.not_lt.1 h1)
        rw [this, cmpB_eq0 a b h]
theorem cmpB_anti : ∀ a b : List UInt8, cmpB b a = - cmpB a b
  | [], [] => rfl
  | [], _ :: _ => rfl
  | _ :: _, [] => rfl
  | x :: a, y :: b => by
    rw [cmpB_cons, cmpB_cons]
    by_cases h1 : x < y
    · have h2 : ¬ y < x := UInt8.not_lt.2 (UInt8.le_of_lt h1)
      rw [if_pos h1, if_neg h2, if_pos h1]; rfl
    · by_cases h2 : y < x
      · rw [if_pos h2, if_neg h1, if_pos h2]
      · rw [if_neg h1, if_neg h2, if_neg h2, if_neg h1]; exact cmpB_anti a b
theorem cmpB_trans : ∀ a b d : List UInt8, cmpB a b < 0 → cmpB b d < 0 → cmpB a d < 0
  | [], [], _, h, _ => by simp [cmpB, Lib.compareBytes] at h
  | _ :: _, [], _, h, _ => by simp [cmpB, Lib.compareBytes] at h
  | _, _ :: _, [], _, k => by simp [cmpB, Lib.compareBytes] at k
  | [], _ :: _, _ :: _, _, _ => by simp [cmpB, Lib.compareBytes]
  | x :: a, y :: b, z :: d, h, k => by
    rw [cmpB_cons] at h k ⊢
    have irr := UInt8.lt_irrefl
    by_cases h1 : x < y
    · by_cases k1 : y < z
      · rw [if_pos (u8_lt_tr h1 k1)]; omega
      · rw [if_neg k1] at k
        by_cases k2 : z < y
        · rw [if_pos k2] at k; omega
        · have : y = z := UInt8.le_antisymm (UInt8.not_lt.1 k2) (UInt8.not_lt.1 k1)
          rw [← this, if_pos h1]; omega
    · rw [if_neg h1] at h
      by_cases h2 : y < x
      · rw [if_pos h2] at h; omega
      · rw [if_neg h2] at h
        have e : x = y := UInt8.le_antisymm (UInt8.not_lt.1 h2) (UInt8.not_lt.1 h1)
        rw [e]
        by_cases k1 : y < z
        · rw [if_pos k1]; omega
        · rw [if_neg k1] at k ⊢
          by_cases k2 : z < y
          · rw [if_pos k2] at k; omega
          · rw [if_neg k2] at k ⊢; exact cmpB_trans a b d h k
theorem goodB : Good (fun _ => True) cmpB := ⟨fun a b _ _ h => cmpB_eq0 a b h, cmpB_refl, fun a b _ _ => cmpB_anti a b, fun a b d _ _ _ => cmpB_trans a b d⟩
theorem cmpL_cons (x y : List UInt8) (a b : List (List UInt8)) : cmpL (x :: a) (y :: b) = if cmpB x y = 0 then cmpL a b else cmpB x y := rfl
theorem cmpL_refl : ∀ a : List (List UInt8), cmpL a a = 0
  | [] => rfl
  | x :: a => by rw [cmpL_cons, if_pos (cmpB_refl x)]; exact cmpL_refl a
theorem cmpL_eq0 : ∀ a b : List (List UInt8), a.length = b.length → cmpL a b = 0 → a = b
  | [], [], _, _ => rfl
  | [], _ :: _, h, _ => by simp at h
  | _ :: _, [], h, _ => by simp at h
  | x :: a, y :: b, h, e => by
    rw [cmpL_cons] at e
    split at e
    · next h0 => rw [cmpB_eq0 _ _ h0, cmpL_eq0 a b (by simpa using h) e]
    · next h0 => exact absurd e h0
theorem cmpL_anti : ∀ a b : List (List UInt8), a.length = b.length → cmpL b a = - cmpL a b
  | [], [], _ => rfl
  | [], _ :: _, h => by simp at h
  | _ :: _, [], h => by simp at h
  | x :: a, y :: b, h => by
    have ha := cmpB_anti x y
    rw [cmpL_cons, cmpL_cons]
    by_cases h0 : cmpB x y = 0
    · rw [if_pos h0, if_pos (by omega)]; exact cmpL_anti a b (by simpa using h)
    · rw [if_neg h0, if_neg (by omega)]; exact ha
theorem cmpL_trans : ∀ a b d : List (List UInt8), a.length = b.length → b.length = d.length → cmpL a b < 0 → cmpL b d < 0 → cmpL a d < 0
  | [], [], [], _, _, h, _ => by simp [cmpL] at h
  | [], _ :: _, _, h, _, _, _ => by simp at h
  | _ :: _, [], _, h, _, _, _ => by simp at h
  | [], [], _ :: _, _, h, _, _ => by simp at h
  | _ :: _, _ :: _, [], _, h, _, _ => by simp at h
  | x :: a, y :: b, z :: d, e1, e2, h, k => by
    rw [cmpL_cons] at h k ⊢
    by_cases h0 : cmpB x y = 0
    · have := cmpB_eq0 _ _ h0
      subst this
      rw [if_pos h0] at h
      by_cases k0 : cmpB x z = 0
      · rw [if_pos k0] at k ⊢
        exact cmpL_trans a b d (by simpa using e1) (by simpa using e2) h k
      · rw [if_neg k0] at k ⊢; exact k
    · rw [if_neg h0] at h
      by_cases k0 : cmpB y z = 0
      · have := cmpB_eq0 _ _ k0
        subst this
        rw [if_neg h0]; exact h
      · rw [if_neg k0] at k
        have := cmpB_trans x y z h k
        rw [if_neg (by omega)]; exact this
theorem ordK_len (x : Ent) : (ordK x).length = 4 := rfl
theorem cmp_refl (x : Ent) : cmp x x = 0 := cmpL_refl _
theorem cmp_key (x y : Ent) (h : cmp x y = 0) : x.key = y.key := by
  have := cmpL_eq0 _ _ (by rw [ordK_len, ordK_len]) h
  unfold ordK at this
  simp only [List.cons.injEq, and_true] at this
  exact this.2.2.2
theorem cmp_anti (x y : Ent) : cmp y x = - cmp x y := cmpL_anti _ _ (by rw [ordK_len, ordK_len])
theorem cmp_trans (x y z : Ent) (h : cmp x y ≤ 0) (k : cmp y z ≤ 0) : cmp x z ≤ 0 := by
  unfold cmp at h k ⊢
  by_cases h0 : cmpL (ordK x) (ordK y) = 0
  · rw [cmpL_eq0 _ _ (by rw [ordK_len, ordK_len]) h0]; exact k
  · by_cases k0 : cmpL (ordK y) (ordK z) = 0
    · rw [← cmpL_eq0 _ _ (by rw [ordK_len, ordK_len]) k0]; exact h
    · exact Int.le_of_lt (cmpL_trans (ordK x) (ordK y) (ordK z) rfl rfl (by omega) (by omega))
theorem insertR_perm (x : Ent) : ∀ r : List Ent, (insertR x r).Perm (x :: r)
  | [] => .refl _
  | y :: r => by
    unfold insertR
    split
    · exact ((insertR_perm x r).cons y).trans (.swap x y r)
    · exact .refl _
theorem sortR_perm : ∀ (l acc : List Ent), (sortR acc l).Perm (acc ++ l)
  | [], acc => by rw [List.append_nil]; exact .refl _
  | x :: l, acc => by
    unfold sortR
    refine (sortR_perm l _).trans ?_
    refine ((insertR_perm x acc).append_right l).trans ?_
    exact List.perm_middle.symm
theorem order_perm (l : List Ent) : (order l).Perm l := (List.reverse_perm _).trans (by have := sortR_perm l []; rwa [List.nil_append] at this)
def Desc (r : List Ent) : Prop := r.Pairwise fun a b => cmp b a ≤ 0
theorem insertR_desc (x : Ent) : ∀ r : List Ent, Desc r → Desc (insertR x r)
  | [], _ => by unfold insertR; exact List.pairwise_singleton _ _
  | y :: r, h => by
    unfold Desc at h ⊢
    rw [List.pairwise_cons] at h
    unfold insertR
    split
    · next hlt =>
      rw [List.pairwise_cons]
      refine ⟨fun z hz => ?_, insertR_desc x r h.2⟩
      rcases List.mem_cons.1 ((insertR_perm x r).mem_iff.1 hz) with rfl | hz
      · omega
      · exact h.1 z hz
    · next hlt =>
      have ha := cmp_anti x y
      rw [List.pairwise_cons, List.pairwise_cons]
      refine ⟨fun z hz => ?_, h⟩
      rcases List.mem_cons.1 hz with rfl | hz
      · omega
      · exact cmp_trans z y x (h.1 z hz) (by omega)
theorem sortR_desc : ∀ (l acc : List Ent), Desc acc → Desc (sortR acc l)
  | [], _, h => h
  | x :: l, acc, h => by unfold sortR; exact sortR_desc l _ (insertR_desc x acc h)
theorem order_asc (l : List Ent) : (order l).Pairwise fun a b => cmp a b ≤ 0 := by
  unfold order
  rw [List.pairwise_reverse]
  exact sortR_desc l [] List.Pairwise.nil
theorem sortR_asc : ∀ (l acc : List Ent), (acc.reverse ++ l).Pairwise (fun a b => cmp a b ≤ 0) → sortR acc l = l.reverse ++ acc
  | [], _, _ => rfl
  | x :: l, acc, h => by
    unfold sortR
    have e : insertR x acc = x :: acc := by
      cases acc with
      | nil => rfl
      | cons y r =>
        unfold insertR
        have := (List.pairwise_append.1 h).2.2 y (by simp) x (by simp)
        have ha := cmp_anti x y
        rw [if_neg (by omega)]
    rw [e, sortR_asc l (x :: acc) (by simpa using h)]
    simp
theorem order_again (l : List Ent) : order (order l) = order l := by
  show (sortR [] (order l)).reverse = _
  rw [sortR_asc (order l) [] (by rw [List.reverse_nil, List.nil_append]; exact order_asc l)]
  simp
theorem key_inj : ∀ (l : List Ent), (l.map (·.key)).Nodup → ∀ a ∈ l, ∀ b ∈ l, a.key = b.key → a = b
  | [], _, _, ha, _, _, _ => absurd ha List.not_mem_nil
  | y :: l, h, a, ha, b, hb, e => by
    rw [List.map_cons, List.nodup_cons] at h
    rcases List.mem_cons.1 ha with ea | ha2
    · rcases List.mem_cons.1 hb with eb | hb2
      · rw [ea, eb]
      · exact absurd (List.mem_map.2 ⟨b, hb2, by rw [← e, ea]⟩) h.1
    · rcases List.mem_cons.1 hb with eb | hb2
      · exact absurd (List.mem_map.2 ⟨a, ha2, by rw [e, eb]⟩) h.1
      · exact key_inj l h.2 a ha2 b hb2 e
theorem order_of_perm (l m : List Ent) (hp : l.Perm m) (hn : (l.map (·.key)).Nodup) : order l = order m := by
  refine List.Perm.eq_of_pairwise (le := fun a b => cmp a b ≤ 0) ?_ (order_asc l) (order_asc m) ((order_perm l).trans (hp.trans (order_perm m).symm))
  intro a b ha hb h1 h2
  exact key_inj l hn a ((order_perm l).mem_iff.1 ha) b (hp.symm.mem_iff.1 ((order_perm m).mem_iff.1 hb)) (cmp_key a b (by have := cmp_anti a b; omega))
/-! ### keys -/
/-- the keys that are there for the first time -/
def fresh : List (List UInt8) → List (List UInt8) → List (List UInt8)
  | _, [] => []
  | seen, k :: r => if seen.contains k then fresh (seen ++ [k]) r else k :: fresh (seen ++ [k]) r
theorem pick_fresh (l : List Ent) : ∀ (ks seen : List (List UInt8)), pickN l seen ks = ((fresh seen ks).filterMap (fun k => (wholeE l k).1), (fresh seen ks).filterMap fun k => if (wholeE l k).1.isSome then none else some ((wholeE l k).2, k))
  | [], _ => rfl
  | k :: r, seen => by
    unfold pickN fresh
    split
    · exact pick_fresh l r _
    · rw [List.filterMap_cons, List.filterMap_cons, pick_fresh l r]
      generalize wholeE l k = o
      obtain ⟨o1, e⟩ := o
      cases o1 <;> rfl
theorem mem_fresh : ∀ (ks seen : List (List UInt8)) (k : List UInt8), k ∈ fresh seen ks ↔ k ∈ ks ∧ k ∉ seen
  | [], _, k => by simp [fresh]
  | q :: r, seen, k => by
    unfold fresh
    by_cases h : seen.contains q
    · rw [if_pos h, mem_fresh r]
      have h' : q ∈ seen := by simpa using h
      simp only [List.mem_append, List.mem_cons]
      constructor
      · rintro ⟨h1, h2⟩; exact ⟨.inr h1, fun h3 => h2 (.inl h3)⟩
      · rintro ⟨h1, h2⟩
        have : k ≠ q := fun e => h2 (e ▸ h')
        exact ⟨h1.resolve_left this, fun h3 => h3.elim h2 fun h4 => this (by simpa using h4)⟩
    · rw [if_neg h, List.mem_cons, mem_fresh r]
      have h' : q ∉ seen := by simpa using h
      simp only [List.mem_append, List.mem_cons]
      constructor
      · rintro (rfl | ⟨h1, h2⟩)
        · exact ⟨.inl rfl, h'⟩
        · exact ⟨.inr h1, fun h3 => h2 (.inl h3)⟩
      · rintro ⟨h1, h2⟩
        by_cases e : k = q
        · exact .inl e
        · exact .inr ⟨h1.resolve_left e, fun h3 => h3.elim h2 fun h4 => e (by simpa using h4)⟩
theorem fresh_nodup : ∀ (ks seen : List (List UInt8)), (fresh seen ks).Nodup
  | [], _ => by unfold fresh; exact List.nodup_nil
  | q :: r, seen => by
    unfold fresh
    split
    · exact fresh_nodup r _
    · rw [List.nodup_cons]
      refine ⟨fun h => ?_, fresh_nodup r _⟩
      have := ((mem_fresh r _ q).1 h).2
      exact this (by simp)
theorem fresh_none : ∀ (ks seen : List (List UInt8)), (∀ k ∈ ks, k ∈ seen) → fresh seen ks = []
  | [], _, _ => rfl
  | q :: r, seen, h => by
    unfold fresh
    rw [if_pos (by simpa using h q (by simp))]
    exact fresh_none r _ (fun k hk => List.mem_append_left _ (h k (List.mem_cons_of_mem _ hk)))
theorem fresh_append : ∀ (a b seen : List (List UInt8)), fresh seen (a ++ b) = fresh seen a ++ fresh (seen ++ a) b
  | [], b, seen => by simp [fresh]
  | q :: a, b, seen => by
    rw [List.cons_append]
    unfold fresh
    have e : seen ++ q :: a = seen ++ [q] ++ a := by simp
    split
    · rw [fresh_append a b, e]; cases b <;> rfl
    · rw [fresh_append a b, e, List.cons_append]; cases b <;> rfl
theorem pick_again (l : List Ent) (ks : List (List UInt8)) : pick l (ks ++ ks) = pick l ks := by
  unfold pick
  rw [pick_fresh, pick_fresh, fresh_append, List.nil_append, fresh_none ks ks (fun _ h => h), List.append_nil]
theorem fresh_rev (ks : List (List UInt8)) : (fresh [] ks.reverse).Perm (fresh [] ks) := by
  rw [List.perm_ext_iff_of_nodup (fresh_nodup _ _) (fresh_nodup _ _)]
  intro k
  rw [mem_fresh, mem_fresh, List.mem_reverse]
theorem pick_count (l : List Ent) (ks : List (List UInt8)) : (pick l ks).1.length + (pick l ks).2.length = (fresh [] ks).length := by
  unfold pick
  rw [pick_fresh]
  dsimp only
  generalize fresh [] ks = f
  induction f with
  | nil => rfl
  | cons k f ih =>
    rw [List.filterMap_cons, List.filterMap_cons, List.length_cons]
    cases h : (wholeE l k).1
    · simp only [Option.isSome_none, Bool.false_eq_true, if_false, List.length_cons]; omega
    · simp only [Option.isSome_some, if_true, List.length_cons]; omega
theorem find_key (l : List Ent) (k : List UInt8) (x : Ent) (h : findE l k = some x) : x.key = k := by
  have := List.find?_some h
  simpa using this
theorem whole_key (l : List Ent) (k : List UInt8) (x : Ent) (h : (wholeE l k).1 = some x) : x.key = k := by
  unfold wholeE at h
  split at h
  · next fs e hw =>
    dsimp only at h
    cases hf : findE l k with
    | none => rw [hf] at h; cases h
    | some y =>
      rw [hf] at h
      simp only [Option.map_some, Option.some.injEq] at h
      rw [← h]; exact find_key l k y hf
  · cases h
theorem pick_keys (l : List Ent) (ks : List (List UInt8)) : ((pick l ks).1.map (·.key)).Nodup := by
  unfold pick
  rw [pick_fresh]
  dsimp only
  have h := fresh_nodup ks []
  generalize fresh [] ks = f at h
  have hs : ∀ g : List (List UInt8), ∀ k ∈ (g.filterMap fun k => (wholeE l k).1).map (·.key), k ∈ g := by
    intro g k hk
    obtain ⟨x, hx, rfl⟩ := List.mem_map.1 hk
    obtain ⟨q, hq, hw⟩ := List.mem_filterMap.1 hx
    rw [whole_key l q x hw]; exact hq
  induction f with
  | nil => exact List.nodup_nil
  | cons k f ih =>
    rw [List.nodup_cons] at h
    rw [List.filterMap_cons]
    cases hw : (wholeE l k).1 with
    | none => exact ih h.2
    | some x =>
      dsimp only
      rw [List.map_cons, List.nodup_cons]
      refine ⟨fun hm => ?_, ih h.2⟩
      rw [whole_key l k x hw] at hm
      exact h.1 (hs f k hm)
theorem pick_rev (l : List Ent) (ks : List (List UInt8)) : (pick l ks.reverse).1.Perm (pick l ks).1 ∧ (pick l ks.reverse).2.length = (pick l ks).2.length := by
  have hp := fresh_rev ks
  unfold pick
  rw [pick_fresh, pick_fresh]
  exact ⟨hp.filterMap _, (hp.filterMap _).length_eq⟩
/-! ### labels -/
def tag (style : Int) (ls : List (List UInt8)) (i : Nat) (s : List UInt8) : List UInt8 :=
  if style ≠ 1 then Cnt.text ((i : Int) + 1) 0 else if 1 < ls.count s then s ++ Cnt.text ((ls.take (i + 1)).count s : Nat) 3 else s
def tagged (style : Int) (o : List Ent) : List Cited := o.mapIdx fun i x => ⟨x, tag style (o.map letters) i (letters x), textOf x⟩
def all (l : List Ent) (ks : List (List UInt8)) (style : Int) : List Cited × List (Int × List UInt8) := (tagged style (order (pick l ks).1), (pick l ks).2)
theorem all_again (l : List Ent) (ks : List (List UInt8)) (style : Int) : all l (ks ++ ks) style = all l ks style := by unfold all; rw [pick_again]
theorem all_rev (l : List Ent) (ks : List (List UInt8)) (style : Int) : (all l ks.reverse style).1 = (all l ks style).1 ∧ (all l ks.reverse style).2.length = (all l ks style).2.length := by
  have h := pick_rev l ks
  refine ⟨?_, h.2⟩
  unfold all
  dsimp only
  rw [order_of_perm _ _ h.1 (h.1.symm.map (·.key) |>.nodup (pick_keys l ks))]
theorem all_count (l : List Ent) (ks : List (List UInt8)) (style : Int) : (all l ks style).1.length + (all l ks style).2.length = (fresh [] ks).length := by
  rw [← pick_count l ks]
  unfold all tagged
  rw [List.length_mapIdx, (order_perm _).length_eq]
end Go.Proofs.YtanbcokkfbidbaaGreatDoor.Lb
