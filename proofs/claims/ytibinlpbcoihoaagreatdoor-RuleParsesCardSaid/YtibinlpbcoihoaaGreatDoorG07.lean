/- The walks of package name (layer 16), first part: words, and what joins them. 'strings.ContainsAny(t, "{}")' of any bytes. -/
import Derived.Test.YtibinlpbcoihoaaGreatDoorChecked
import Derived.Test.YtibinlpbcoihoaaGreatDoorShelf
import Derived.Test.YtibinlpbcoihoaaGreatDoorG00
import Derived.Test.YtibinlpbcoihoaaGreatDoorG01
import Derived.Test.YtibinlpbcoihoaaGreatDoorG03
import Derived.Test.YtibinlpbcoihoaaGreatDoorG02
import Derived.Test.YtibinlpbcoihoaaGreatDoorG04
import Derived.Lib.EndianMore
import Derived.Lib.SpaceUEq
import Derived.Lib.QuoteLoop
import Derived.Lib.OthersKept
import Derived.Laws.Runes
import Derived.WalkMore
set_option linter.unusedSimpArgs false
set_option linter.unusedVariables false
namespace Go.Proofs.YtibinlpbcoihoaaGreatDoor
open Go.RowKit
def RStr (s : List UInt8) (vs : List Value) : Prop := vs = [.string ⟨s.toArray⟩]
theorem RStr.size (s : List UInt8) (vs : List Value) (h : RStr s vs) : vs.length = 1 := by rw [h]; rfl
theorem str_info : (Tryz.prog.info? 9).map (fun i => (i.zero, i.size, i.bytes)) = some (some (.string ⟨#[]⟩), 1, 16) := by kernel_rfl
theorem rep_strs : ∀ (c : List (List UInt8)) (fl : List Value), RepRow RStr c fl → fl = c.map fun s => .string ⟨s.toArray⟩
  | [], _, h => h
  | x :: c, _, h => by
    obtain ⟨vs, rest, rfl, hx, hr⟩ := h
    rw [rep_strs c rest hr, show vs = [.string ⟨x.toArray⟩] from hx]
    rfl
theorem strs_rep : ∀ (c : List (List UInt8)), RepRow RStr c (c.map fun s => .string ⟨s.toArray⟩)
  | [] => rfl
  | x :: c => ⟨[.string ⟨x.toArray⟩], _, rfl, rfl, strs_rep c⟩
theorem OwnL.putS {B g n cap : Nat} {W : World} {c : List (List UInt8)} (h : OwnL B 9 1 RStr W (.slice (some ⟨g, 0, none⟩) n cap) c) (hn : n = c.length) (i : Nat) (x : List UInt8) :
    OwnL B 9 1 RStr (W.setCell ⟨g, i, none⟩ (.string ⟨x.toArray⟩)) (.slice (some ⟨g, 0, none⟩) n cap) (c.set i x) := by
  subst hn
  obtain ⟨fl, h1, h2⟩ := h
  obtain rfl := rep_strs _ _ h2
  have s1 := World.ownsRow.stored h1 i (.string ⟨x.toArray⟩)
  refine ⟨(c.set i x).map fun s => .string ⟨s.toArray⟩, ?_, strs_rep _⟩
  rw [List.length_set]
  have e : (c.map fun s : List UInt8 => (Value.string ⟨s.toArray⟩)).set i (.string ⟨x.toArray⟩) = (c.set i x).map fun s => .string ⟨s.toArray⟩ := by rw [List.map_set]
  rw [← e]
  exact s1.1
theorem OwnL.cellS {B g n cap : Nat} {W : World} {c : List (List UInt8)} (h : OwnL B 9 1 RStr W (.slice (some ⟨g, 0, none⟩) n cap) c) (hn : n = c.length) {i : Nat} {x : List UInt8} (hx : c[i]? = some x) :
    W.cell? ⟨g, i, none⟩ = some (.string ⟨x.toArray⟩) := by
  subst hn
  obtain ⟨fl, h1, h2⟩ := h
  obtain rfl := rep_strs _ _ h2
  have hi : i < c.length := (List.getElem?_eq_some_iff.1 hx).1
  rw [World.ownsRow.cellAt h1 i (by omega), List.getElem?_map, hx]
  rfl
theorem OwnL.frozS {B g n cap : Nat} {W : World} {c : List (List UInt8)} (h : OwnL B 9 1 RStr W (.slice (some ⟨g, 0, none⟩) n cap) c) (hn : n = c.length) (i : Nat) : W.frozen? ⟨g, i, none⟩ = false := by
  subst hn
  obtain ⟨fl, h1, h2⟩ := h
  exact World.ownsRow.frozenAt h1 i
theorem OwnL.bndS {B g n cap : Nat} {W : World} {c : List (List UInt8)} (h : OwnL B 9 1 RStr W (.slice (some ⟨g, 0, none⟩) n cap) c) : B ≤ g ∧ g < W.heap.size := by
  obtain ⟨fl, h1, h2⟩ := h
  exact h1.lt g rfl
def ixP (p : List UInt8 → Bool) (l : List (List UInt8)) : Int := if l.any p then ((l.findIdx p : Nat) : Int) else -1
theorem ixP_hit (p : List UInt8 → Bool) (l : List (List UInt8)) (k : Nat) (x : List UInt8) (hx : l[k]? = some x) (h : (l.take k).any p = false) (hp : p x = true) : ixP p l = (k : Int) := by
  have hany : l.any p = true := List.any_eq_true.2 ⟨x, List.mem_of_getElem? hx, hp⟩
  have hk : k < l.length := (List.getElem?_eq_some_iff.1 hx).1
  have e : l.findIdx p = k := by
    have hsplit : l = l.take k ++ x :: l.drop (k + 1) := by
      obtain ⟨h1, h2⟩ := List.getElem?_eq_some_iff.1 hx
      rw [← h2, ← List.drop_eq_getElem_cons h1, List.take_append_drop]
    have hfalse : ∀ y ∈ l.take k, p y = false := fun y hy => by
      cases hpy : p y
      · rfl
      · rw [List.any_eq_true.2 ⟨y, hy, hpy⟩] at h; cases h
    rw [List.findIdx_eq hk]
    obtain ⟨h1, h2⟩ := List.getElem?_eq_some_iff.1 hx
    refine ⟨by rw [h2]; exact hp, fun j hj => ?_⟩
    have hjl : j < l.length := by omega
    exact hfalse l[j] (List.mem_of_getElem? (by rw [List.getElem?_take_of_lt hj]; exact List.getElem?_eq_getElem hjl))
  unfold ixP
  rw [if_pos hany, e]
theorem ixP_miss (p : List UInt8 → Bool) (l : List (List UInt8)) (h : l.any p = false) : ixP p l = -1 := by unfold ixP; rw [h]; rfl
theorem any_take (p : List UInt8 → Bool) (l : List (List UInt8)) (k : Nat) (x : List UInt8) (hx : l[k]? = some x) (h : (l.take k).any p = false) (hp : p x = false) : (l.take (k + 1)).any p = false := by
  rw [List.take_add_one, hx]; simp [h, hp]
theorem nm_words1 (s : List UInt8) (w : World) : Calls Tryz.prog 40 #[.string ⟨s.toArray⟩] w fun e w' => e = .returned (.bool s.isEmpty) ∧ w = w' := by
  cases hs : s.isEmpty
  · go_enter Tryz.func40, Tryz.ntmps40
    go_wp2_with fail
    go_ret
    exact ⟨rfl, rfl⟩
  · obtain rfl : s = [] := by cases s with | nil => rfl | cons c t => cases hs
    go_enter Tryz.func40, Tryz.ntmps40
    go_wp2_with fail
    go_ret
    exact ⟨rfl, rfl⟩
set_option maxRecDepth 100000 in
set_option maxHeartbeats 1600000 in
theorem nm_ix_words1 (l : List (List UInt8)) (v : Value) (S : Nat → Prop) (w : World) (hS : SliceIn S 1 RStr w v l) :
    Calls Tryz.prog 59 #[v, .func (.func 40) #[] #[]] w fun e w' => e = .returned (.int .i64 (ixP List.isEmpty l)) ∧ w = w' := by
  have hlm := hS.bound
  obtain ⟨pa, cap, rfl, hle, hm, hat⟩ := hS
  have Hat := Lib.hid hat
  clear hat hm hle
  go_enter Tryz.func59, Tryz.ntmps59
  go_wp2_with fail
  go_loopw [8] (fun iv wr => ∃ k : Nat, k ≤ l.length ∧ iv = .int .i64 (k : Int) ∧ (l.take k).any List.isEmpty = false ∧ wr = w) (fun iv _ => l.length - (intOf iv).toNat)
  case atStart => exact ⟨0, Nat.zero_le _, rfl, rfl, rfl⟩
  case round =>
    obtain ⟨k, hk, rfl, hany, rfl⟩ := hrel
    have Hany := Lib.hid hany; clear hany
    by_cases hlt : k < l.length
    · obtain ⟨x, hx⟩ : ∃ x, l[k]? = some x := ⟨_, List.getElem?_eq_getElem hlt⟩
      obtain ⟨b, off, vs, rfl, _, hbw, hR, hc⟩ := Hat.out k x hx
      have hR : vs = _ := hR
      subst hR
      have e0 : wr.cell? ⟨b, off + k, none⟩ = some (.string ⟨x.toArray⟩) := by
        have := hc 0 _ rfl
        rwa [Nat.mul_one, Nat.add_zero] at this
      have hlt' : (k : Int) < (l.length : Int) := by omega
      obtain ⟨k1, hk1⟩ : ∃ k1, k1 = k + 1 := ⟨_, rfl⟩
      have hwk : IntKind.i64.wrap ((k : Int) + 1) = (k1 : Int) := by rw [IntWalk.i64_in _ (by omega)]; omega
      have Hx := Lib.hid hx; have Hlt := Lib.hid hlt; have Hk1 := Lib.hid hk1
      clear hc hx hlt hk hk1
      obtain ⟨t, ht⟩ : ∃ t, List.isEmpty x = t := ⟨_, rfl⟩
      have Ht := Lib.hid ht
      clear ht
      cases t
      · go_wp2_with (go_at_call 40; refine (nm_words1 x _).mono ?_; rw [Ht.out]; rintro e w9 ⟨rfl, rfl⟩)
        go_roundw
        case rel => exact ⟨k1, by have := Hlt.out; have := Hk1.out; omega, rfl, by rw [Hk1.out]; exact any_take _ _ _ _ Hx.out Hany.out Ht.out, trivial⟩
        case measure => have := Hlt.out; have := Hk1.out; simp [intOf]; omega
      · have Hr := Lib.hid (ixP_hit _ l k x Hx.out Hany.out Ht.out)
        go_wp2_with (go_at_call 40; refine (nm_words1 x _).mono ?_; rw [Ht.out]; rintro e w9 ⟨rfl, rfl⟩)
        go_ret
        exact ⟨ret_int Hr.out.symm, rfl⟩
    · have hlt' : ¬ (k : Int) < (l.length : Int) := by omega
      have Hr := Lib.hid (ixP_miss List.isEmpty l (by have := Hany.out; rwa [List.take_of_length_le (by omega)] at this))
      clear hlt hk
      go_wp2_with fail
      go_ret
      exact ⟨ret_int Hr.out.symm, rfl⟩
theorem full_take (l : List (List UInt8)) (k : Nat) (x : List UInt8) (hx : l[k]? = some x) : Lb.full (l.take (k + 1)) = Lb.full (l.take k) ++ if x.isEmpty then [] else [x] := by
  unfold Lb.full
  rw [List.take_add_one, hx, List.filter_append]
  cases x with
  | nil => rfl
  | cons c t => rfl
theorem full_all (l : List (List UInt8)) (h : l.any List.isEmpty = false) : Lb.full l = l := by
  unfold Lb.full
  rw [List.filter_eq_self]
  intro a ha
  cases ha' : a.isEmpty
  · rfl
  · rw [List.any_eq_true.2 ⟨a, ha, ha'⟩] at h; cases h
theorem ixP_cases (p : List UInt8 → Bool) (l : List (List UInt8)) : (l.any p = false ∧ ixP p l = -1) ∨ ∃ k x, l[k]? = some x ∧ p x = true ∧ (l.take k).any p = false ∧ ixP p l = (k : Int) := by
  cases h : l.any p
  · exact .inl ⟨rfl, ixP_miss p l h⟩
  · right
    have hlt : l.findIdx p < l.length := List.findIdx_lt_length.2 (by obtain ⟨x, hx, hp⟩ := List.any_eq_true.1 h; exact ⟨x, hx, hp⟩)
    have hf : (l.take (l.findIdx p)).any p = false := by
      cases h2 : (l.take (l.findIdx p)).any p
      · rfl
      · obtain ⟨y, hy, hpy⟩ := List.any_eq_true.1 h2
        obtain ⟨j, hj, rfl⟩ := List.mem_iff_getElem.1 hy
        rw [List.length_take] at hj
        rw [List.getElem_take] at hpy
        exact absurd hpy (by simpa using List.not_of_lt_findIdx (p := p) (xs := l) (i := j) (by omega))
    exact ⟨l.findIdx p, l[l.findIdx p], List.getElem?_eq_getElem hlt, List.findIdx_getElem, hf, ixP_hit p l _ _ (List.getElem?_eq_getElem hlt) hf List.findIdx_getElem⟩
set_option maxRecDepth 100000 in
set_option maxHeartbeats 3200000 in
theorem nm_del_words1 (l : List (List UInt8)) (g n cap B : Nat) (w : World) (hO : OwnL B 9 1 RStr w (.slice (some ⟨g, 0, none⟩) n cap) l) (hn : n = l.length) :
    Calls Tryz.prog 39 #[.slice (some ⟨g, 0, none⟩) n cap, .func (.func 40) #[] #[]] w fun e w' => (∃ v, e = .returned v ∧ v = .slice (some ⟨g, 0, none⟩) (Lb.full l).length cap ∧ SliceIn (fun j => B ≤ j) 1 RStr w' v (Lb.full l)) ∧ Below B w w' := by
  subst hn
  have HS := Lib.hid (hO.slice RStr.size (fun j => B ≤ j) (fun _ h => h))
  have hlm := HS.out.bound
  have HO := Lib.hid hO
  have Hle := Lib.hid (show l.length ≤ cap by
    obtain ⟨p, c9, e9, h9, _⟩ := HS.out
    simp only [Value.slice.injEq] at e9
    omega)
  clear hO
  rcases ixP_cases List.isEmpty l with ⟨hany, hix⟩ | ⟨k0, x0, hx0, hp0, hany, hix⟩
  · have Hix := Lib.hid hix
    have Hf := Lib.hid (full_all l hany)
    clear hix hany
    go_enter Tryz.func39, Tryz.ntmps39
    go_wp2_with (go_at_call 59; refine (nm_ix_words1 l _ _ _ HS.out).mono ?_; rw [Hix.out]; rintro e w1 ⟨rfl, rfl⟩)
    go_ret
    refine ⟨⟨_, rfl, by rw [Hf.out]; rfl, ?_⟩, Below.refl _ _⟩
    rw [Hf.out]
    exact HS.out
  · have hk0 : k0 < l.length := (List.getElem?_eq_some_iff.1 hx0).1
    have Hix := Lib.hid hix
    have hf0 : Lb.full (l.take k0) = l.take k0 := full_all _ hany
    have hne : ((k0 : Int) == -1) = false := by rw [beq_eq_false_iff_ne]; omega
    obtain ⟨k1, hk1⟩ : ∃ k1, k1 = k0 + 1 := ⟨_, rfl⟩
    have hwk : IntKind.i64.wrap ((k0 : Int) + 1) = (k1 : Int) := by rw [IntWalk.i64_in _ (by omega)]; omega
    have hstart : l = Lb.full (l.take k1) ++ [x0] ++ l.drop k1 ∧ k0 = (Lb.full (l.take k1)).length := by
      have e1 : Lb.full (l.take k1) = l.take k0 := by rw [hk1, full_take l k0 x0 hx0, hp0, hf0]; simp
      rw [e1, hk1]
      obtain ⟨h1, h2⟩ := List.getElem?_eq_some_iff.1 hx0
      refine ⟨?_, by rw [List.length_take]; omega⟩
      conv => lhs; rw [← List.take_append_drop k0 l, List.drop_eq_getElem_cons h1, h2]
      simp
    have Hst := Lib.hid hstart; have Hk1 := Lib.hid hk1; have Hk0 := Lib.hid hk0
    clear hix hany hx0 hp0 hf0 hstart hk1 hk0
    go_enter Tryz.func39, Tryz.ntmps39
    go_wp2_with (go_at_call 59; refine (nm_ix_words1 l _ _ _ HS.out).mono ?_; rw [Hix.out]; rintro e w1 ⟨rfl, rfl⟩)
    clear hwk hne
    go_loopw [5, 6] (fun iv jv wr => ∃ (i j : Nat) (mid : List (List UInt8)), iv = .int .i64 (i : Int) ∧ jv = .int .i64 (j : Int) ∧ j ≤ l.length ∧ i = (Lb.full (l.take j)).length ∧ mid ≠ [] ∧ i + mid.length = j ∧ OwnL B 9 1 RStr wr (.slice (some ⟨g, 0, none⟩) l.length cap) (Lb.full (l.take j) ++ mid ++ l.drop j) ∧ Below B w wr) (fun _ jv _ => l.length - (intOf jv).toNat)
    case atStart =>
      refine ⟨k0, k1, [x0], rfl, rfl, by have := Hk0.out; have := Hk1.out; omega, Hst.out.2, by simp, by have := Hk1.out; simp; omega, ?_, Below.refl _ _⟩
      rw [← Hst.out.1]; exact HO.out
    case round =>
      clear HO HS
      obtain ⟨i, j, mid, rfl, rfl, hj, hi, hmid, him, hO, hb⟩ := hrel
      have hb9 := hO.bndS
      have HO := Lib.hid hO; have Hb := Lib.hid hb; have Hi := Lib.hid hi; have Him := Lib.hid him; have Hmid := Lib.hid hmid; have Hj := Lib.hid hj
      have hcl : (Lb.full (l.take j) ++ mid ++ l.drop j).length = l.length := by rw [List.length_append, List.length_append, List.length_drop, ← hi]; omega
      have Hcl := Lib.hid hcl
      have hmp : 0 < mid.length := List.length_pos_iff.2 hmid
      clear hO hb hcl
      by_cases hlt : j < l.length
      · obtain ⟨x, hx⟩ : ∃ x, l[j]? = some x := ⟨_, List.getElem?_eq_getElem hlt⟩
        have hdrop : l.drop j = x :: l.drop (j + 1) := by
          obtain ⟨h1, h2⟩ := List.getElem?_eq_some_iff.1 hx
          rw [List.drop_eq_getElem_cons h1, h2]
        have hcj : (Lb.full (l.take j) ++ mid ++ l.drop j)[j]? = some x := by
          rw [List.getElem?_append_right (by rw [List.length_append, ← hi]; omega), List.length_append, ← hi, him, Nat.sub_self, List.getElem?_drop]
          exact hx
        have e0 := HO.out.cellS Hcl.out.symm hcj
        have f0 := HO.out.frozS Hcl.out.symm i
        have hci : ∃ y, (Lb.full (l.take j) ++ mid ++ l.drop j)[i]? = some y := ⟨_, List.getElem?_eq_getElem (by rw [Hcl.out]; omega)⟩
        obtain ⟨y, hy⟩ := hci
        have e1 := HO.out.cellS Hcl.out.symm hy
        have hlt' : (j : Int) < (l.length : Int) := by omega
        have hil' : (i : Int) < (l.length : Int) := by omega
        obtain ⟨j1, hj1⟩ : ∃ j1, j1 = j + 1 := ⟨_, rfl⟩
        obtain ⟨i1, hi1⟩ : ∃ i1, i1 = i + 1 := ⟨_, rfl⟩
        have hwj : IntKind.i64.wrap ((j : Int) + 1) = (j1 : Int) := by rw [IntWalk.i64_in _ (by omega)]; omega
        have hwi : IntKind.i64.wrap ((i : Int) + 1) = (i1 : Int) := by rw [IntWalk.i64_in _ (by omega)]; omega
        have hft := full_take l j x hx
        have Hft := Lib.hid hft; have Hdr := Lib.hid hdrop; have Hj1 := Lib.hid hj1; have Hi1 := Lib.hid hi1; have Hlt := Lib.hid hlt; have Hb9 := Lib.hid hb9
        clear hx hdrop hcj hy hft hj1 hi1 hlt hmid hmp hi him hj hb9
        obtain ⟨t, ht⟩ : ∃ t, x.isEmpty = t := ⟨_, rfl⟩
        rw [ht] at Hft
        have Ht := Lib.hid ht
        clear ht
        cases t
        · go_wp2_with (go_at_call 40; refine (nm_words1 x _).mono ?_; rw [Ht.out]; rintro e w9 ⟨rfl, rfl⟩)
          go_roundw
          case rel =>
            obtain ⟨m0, mt, hm⟩ : ∃ m0 mt, mid = m0 :: mt := by cases mid with | nil => exact absurd rfl Hmid.out | cons a b => exact ⟨a, b, rfl⟩
            have h1 := Hft.out
            simp only [Bool.false_eq_true, if_false] at h1
            have hset : (Lb.full (l.take j) ++ mid ++ l.drop j).set i x = Lb.full (l.take j1) ++ (mt ++ [x]) ++ l.drop j1 := by
              rw [Hj1.out, h1, Hdr.out, hm, List.append_assoc, List.set_append_right _ _ (by rw [← Hi.out]; exact Nat.le_refl _), ← Hi.out, Nat.sub_self]
              simp
            refine ⟨i1, j1, mt ++ [x], rfl, rfl, by have := Hlt.out; have := Hj1.out; omega, ?_, by simp, ?_, ?_, Hb.out.setCell (p := ⟨g, i, none⟩) Hb9.out.1 _⟩
            · rw [Hi1.out, Hj1.out, h1, List.length_append, ← Hi.out]; rfl
            · have h2 := Him.out; have := Hi1.out; have := Hj1.out; rw [hm] at h2; simp at h2 ⊢; omega
            · rw [← hset]; exact HO.out.putS Hcl.out.symm i x
          case measure => have := Hlt.out; have := Hj1.out; simp [intOf]; omega
        · go_wp2_with (go_at_call 40; refine (nm_words1 x _).mono ?_; rw [Ht.out]; rintro e w9 ⟨rfl, rfl⟩)
          go_roundw
          case rel =>
            have h1 := Hft.out
            simp only [if_true, List.append_nil] at h1
            refine ⟨i, j1, mid ++ [x], rfl, rfl, by have := Hlt.out; have := Hj1.out; omega, by rw [Hj1.out, h1]; exact Hi.out, by simp, by have := Him.out; have := Hj1.out; simp; omega, ?_, Hb.out⟩
            have e2 : Lb.full (l.take j1) ++ (mid ++ [x]) ++ l.drop j1 = Lb.full (l.take j) ++ mid ++ l.drop j := by rw [Hj1.out, h1, Hdr.out]; simp
            rw [e2]; exact HO.out
          case measure => have := Hlt.out; have := Hj1.out; simp [intOf]; omega
      · have hlt' : ¬ (j : Int) < (l.length : Int) := by omega
        have hje : j = l.length := by omega
        clear hi
        subst hje
        rw [List.take_length, List.drop_length, List.append_nil] at HO Hcl
        rw [List.take_length] at Hi
        have hi := Hi.out
        have hil : (i : Int) ≤ (l.length : Int) := by omega
        have hic : (i : Int) ≤ (cap : Int) := by have := Hle.out; omega
        obtain ⟨d, hd⟩ : ∃ d, d = l.length - i := ⟨_, rfl⟩
        have hwd : IntKind.i64.wrap ((l.length : Int) - (i : Int)) = (d : Int) := by rw [IntWalk.i64_in _ (by omega)]; omega
        have hcl : ∀ ty, (Builtin.clear_ #[41] ty #[.slice (some ⟨g, i, none⟩) (l.length - i) (cap - i)]).run Tryz.prog wr = .ok (.tuple #[]) (wr.setCells g i (List.replicate (l.length - i) (.string ⟨#[]⟩))) := fun ty =>
          Lib.run_clear_slice wr _ _ ty _ Tryz.underlying41 (fun w => by kernel_rfl) rfl rfl g i _ _ (by omega) (fun q hq => by
            have hx : ∃ y, (Lb.full l ++ mid)[i + q]? = some y := ⟨_, List.getElem?_eq_getElem (by rw [Hcl.out]; omega)⟩
            obtain ⟨y, hy⟩ := hx
            rw [HO.out.cellS Hcl.out.symm hy]; rfl) (fun q hq => HO.out.frozS Hcl.out.symm _)
        have HP := Lib.hid ((HO.out.slice RStr.size (fun j => B ≤ j) (fun _ h => h)))
        have Hb9 := Lib.hid hb9
        clear hlt hmid hmp him hj hi hd hb9
        go_wp2_with fail
        · exfalso; have := Hle.out; have := Him.out; have := List.length_pos_iff.2 Hmid.out; omega
        go_ret
        have HPr := HP.out
        have hbs := Lib.below_setCells_w Hb9.out.1 (List.replicate (l.length - i) (Value.string ⟨#[]⟩)) i wr
        refine ⟨⟨_, rfl, by rw [← Hi.out]; rfl, ?_⟩, Hb.out.trans hbs⟩
        have hsp := Hi.out
        have e3 : Lb.full l = (Lb.full l ++ mid).take i := by rw [List.take_append_of_le_length (by omega), List.take_of_length_le (by omega)]
        have hsz : ((Lb.full l ++ mid).take i).length = i := by rw [← e3]; exact hsp.symm
        rw [e3]
        obtain ⟨p, c9, hv, hle9, hm9, hat9⟩ := HPr.pre i (by rw [Hcl.out]; omega)
        simp only [Value.slice.injEq] at hv
        obtain ⟨rfl, _, rfl⟩ := hv
        refine ⟨_, _, by rw [hsz]; rfl, hle9, hm9, fun q x hq => ?_⟩
        have hqi : q < i := by have := (List.getElem?_eq_some_iff.1 hq).1; omega
        obtain ⟨b, off, vs, hp, hS, hlt, hR, hc⟩ := hat9 q x hq
        simp only [Option.some.injEq, Addr.mk.injEq, and_true] at hp
        obtain ⟨rfl, rfl⟩ := hp
        refine ⟨_, _, vs, rfl, hS, Nat.lt_of_lt_of_le hlt hbs.size, hR, fun j u hj => ?_⟩
        have hj0 : j = 0 := by have := (List.getElem?_eq_some_iff.1 hj).1; rw [RStr.size _ _ hR] at this; omega
        rw [World.cell?_setCells_out _ _ _ _ _ (fun _ _ => Or.inl (by show 0 + (q * 1 + j) < i; omega))]
        exact hc j u hj
end Go.Proofs.YtibinlpbcoihoaaGreatDoor
set_option linter.unusedSimpArgs false
set_option linter.unusedVariables false
namespace Go.Proofs.YtibinlpbcoihoaaGreatDoor
open Go.RowKit Go.Lib
/-- what is read at a byte that is no ASCII: a rune, and only such bytes -/
theorem decode_wide (l : List UInt8) (i : Nat) (x : UInt8) (hx : l[i]? = some x) (hi : 128 ≤ x.toNat) :
    ∃ r n : Nat, Utf8.decode ⟨l.toArray⟩ i = (r, n) ∧ 128 ≤ r ∧ r ≤ 1114111 ∧ (r < 55296 ∨ 57343 < r) ∧ 1 ≤ n ∧ i + n ≤ l.length ∧ ∀ j y, i ≤ j → j < i + n → l[j]? = some y → 128 ≤ y.toNat := by
  have hil := (List.getElem?_eq_some_iff.1 hx).1
  have hsz : (⟨l.toArray⟩ : ByteArray).size = l.length := by show l.toArray.size = _; simp
  have hd := decode_N ⟨l.toArray⟩ i
  have h1 := decode_high ⟨l.toArray⟩ i (by rw [hsz]; exact hil) (by
    have e : (⟨l.toArray⟩ : ByteArray)[i]'(by rw [hsz]; exact hil) = x := by
      obtain ⟨_, e⟩ := List.getElem?_eq_some_iff.1 hx
      exact e
    rw [e]; exact hi)
  have e0 : l.getD i 0 = x := by rw [List.getD_eq_getElem?_getD, hx]; rfl
  have hlist : (⟨l.toArray⟩ : ByteArray).data.toList = l := by simp
  rw [hlist, e0] at hd
  obtain ⟨r, n, hrn⟩ : ∃ r n, Utf8.decode ⟨l.toArray⟩ i = (r, n) := ⟨_, _, rfl⟩
  rw [hrn] at h1 hd
  have hv := decodeN_valid (l.length - i) x.toNat (l.getD (i + 1) 0).toNat (l.getD (i + 2) 0).toNat (l.getD (i + 3) 0).toNat (UInt8.toNat_lt _)
  have hc := decodeN_conts (l.length - i) x.toNat (l.getD (i + 1) 0).toNat (l.getD (i + 2) 0).toNat (l.getD (i + 3) 0).toNat
  have hr := decodeN_rune_le (l.length - i) x.toNat (l.getD (i + 1) 0).toNat (l.getD (i + 2) 0).toNat (l.getD (i + 3) 0).toNat (UInt8.toNat_lt _)
  have hw := decodeN_width_le (l.length - i) x.toNat (l.getD (i + 1) 0).toNat (l.getD (i + 2) 0).toNat (l.getD (i + 3) 0).toNat (by omega)
  rw [← hd] at hv hc hr hw
  dsimp only at hv hc hr hw h1
  refine ⟨r, n, hrn, h1.1, hr, by omega, h1.2, by omega, fun j y hj hjn hy => ?_⟩
  have hg : ∀ k, l[i + k]? = some y → l.getD (i + k) 0 = y := fun k h => by rw [List.getD_eq_getElem?_getD, h]; rfl
  obtain ⟨c1, c2, c3, c4⟩ := hc
  obtain rfl | rfl | rfl | rfl : j = i ∨ j = i + 1 ∨ j = i + 2 ∨ j = i + 3 := by omega
  · rw [hx] at hy; cases hy; exact hi
  · have := (c1 (by omega)).1; rw [hg 1 hy] at this; omega
  · have := (c2 (by omega)).1; rw [hg 2 hy] at this; omega
  · have := (c3 (by omega)).1; rw [hg 3 hy] at this; omega
end Go.Proofs.YtibinlpbcoihoaaGreatDoor
