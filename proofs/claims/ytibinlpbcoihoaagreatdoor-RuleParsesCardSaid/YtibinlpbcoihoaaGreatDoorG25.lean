/- The walks of slices.Clone of files, (rule.Rule).copy, record.Look. The walk of record.Look. -/
import Derived.Test.YtibinlpbcoihoaaGreatDoorG24
import Derived.Lib.SliceRun
set_option linter.unusedSimpArgs false
set_option linter.unusedVariables false
namespace Go.Proofs.YtibinlpbcoihoaaGreatDoor
open Go.RowKit
theorem file_info : (Tryz.prog.info? 60).map (fun i => (i.zero, i.size, i.bytes)) = some (some (.agg #[.string ⟨#[]⟩, .string ⟨#[]⟩]), 2, 32) := by kernel_rfl
theorem rep_files (l : List (List UInt8 × List UInt8)) (fl : List Value) (h : RepRow RFl l fl) : fl = l.flatMap cF := by
  induction l generalizing fl with
  | nil => exact h
  | cons x r ih =>
    obtain ⟨vs, rest, rfl, hx, hr⟩ := h
    have hx : vs = _ := hx
    rw [ih rest hr, hx, List.flatMap_cons]; rfl
theorem append_files {B : Nat} {w : World} {v x : Value} {a b : List (List UInt8 × List UInt8)} {S : Nat → Prop} (hO : OwnL B 60 2 RFl w v a) (hX : SliceIn S 2 RFl w x b) (hB : B ≤ w.heap.size) (hl : a.length + b.length ≤ 1000000) :
    ∃ v' w', (Builtin.append_ #[61, 61] 61 #[v, x]).run Tryz.prog w = .ok v' w' ∧ OwnL B 60 2 RFl w' v' (a ++ b) ∧ (∀ C w0, Below C w0 w → C ≤ B → Below C w0 w') := by
  obtain ⟨i0, hi, hz0, hz1, hz2⟩ := info_parts file_info
  obtain ⟨fl, hown, hrep⟩ := hO
  obtain ⟨v3, w3, hrun, own3, g3, at3⟩ := run_append_slice (P := Tryz.prog) cF RFl w B 61 61 60 i0 _ 2 32 Tryz.underlying61 hi hz0 hz1 hz2 (by decide) (by decide) v a.length fl hown x b S hX (fun _ _ h => h) (fun _ => rfl) (fun y u hu => by simp only [cF, List.mem_cons, List.not_mem_nil, or_false] at hu; rcases hu with rfl | rfl <;> rfl) (by unfold maxLen; omega) (by omega) hB
  refine ⟨v3, w3, hrun, ⟨_, by rw [List.length_append]; exact own3, ?_⟩, fun C w0 hb hC => hb.grown g3 (Nat.le_trans hC hB) (fun q e => Nat.le_trans hC (World.ownsRow.lt hown q e).1)⟩
  rw [rep_files _ _ hrep]
  have h := rep_flat (R := RFl) cF (fun _ => rfl) (a ++ b)
  rw [List.flatMap_append] at h
  exact h
set_option maxRecDepth 100000 in
theorem std_clone_files (l : List (List UInt8 × List UInt8)) (a : Addr) (cap : Nat) (S : Nat → Prop) (w : World) (hS : SliceIn S 2 RFl w (.slice (some a) l.length cap) l) (hl : l.length ≤ 100000) :
    Calls Tryz.prog 49 #[.slice (some a) l.length cap] w fun e w' => ∃ p c, e = .returned (.slice p l.length c) ∧ OwnL w.heap.size 60 2 RFl w' (.slice p l.length c) l ∧ Below w.heap.size w w' := by
  have hb := below_new w (.cells #[] 60)
  obtain ⟨v2, w2, hrun, hO, hB⟩ := append_files (OwnL.made w.heap.size 60 2 RFl w (Nat.le_refl _)) (hS.below' hb) hb.size (by simp; omega)
  rw [List.nil_append] at hO
  obtain ⟨p, c, rfl⟩ := hO.form
  have Hrun := Lib.hid hrun; have HO := Lib.hid hO; have HB := Lib.hid (hB _ _ hb (Nat.le_refl _))
  clear hrun hO hB hb hS hl
  have heq := Lib.run_eql_slice_nil (P := Tryz.prog) w 61 60 (some a) l.length cap 0 0 Tryz.underlying61
  go_enter Tryz.func49, Tryz.ntmps49
  go_wp2_with (at_builtin; go_loud (refine wpList_append_run rfl (.tmp 5) (.tmp 6) 61 rfl rfl rfl Hrun.out ?_))
  go_ret
  exact ⟨p, c, rfl, HO.out, HB.out⟩
theorem own_file (w : World) (n t : List UInt8) (B : Nat) (hB : B ≤ w.heap.size) : OwnL B 60 2 RFl (w.alloc (.cells #[.string ⟨n.toArray⟩, .string ⟨t.toArray⟩] 60)) (.slice (some ⟨w.heap.size, 0, none⟩) 1 1) [(n, t)] :=
  ⟨[.string ⟨n.toArray⟩, .string ⟨t.toArray⟩], own_built w B 60 2 1 _ hB rfl (by decide), rep_flat (R := RFl) cF (fun _ => rfl) [(n, t)]⟩
/-- what 'copy' leaves -/
def CopyPost (a b t : List UInt8) (w : World) (e : Ending) (w' : World) : Prop := ∃ g h : Nat, e = .returned (.tuple #[.slice (some ⟨g, 0, none⟩) 1 1, .slice (some ⟨h, 0, none⟩) 1 1, .int .i64 0]) ∧ OwnL w.heap.size 60 2 RFl w' (.slice (some ⟨g, 0, none⟩) 1 1) [(b, t)] ∧ OwnL w.heap.size 9 1 RStr w' (.slice (some ⟨h, 0, none⟩) 1 1) [a] ∧ Below w.heap.size w w'
set_option maxRecDepth 100000 in
set_option maxHeartbeats 1600000 in
theorem rule_copy (x : Ru.Rl) (l : List (List UInt8 × List UInt8)) (v : Value) (S : Nat → Prop) (k0 k1 k2 k3 k4 : Int) (w : World) (hS : SliceIn S 2 RFl w v l) (hs : Ix.Sorted l) (hl : l.length ≤ 1000000) :
    Calls Tryz.prog 37 #[rlV x, v, .agg #[.int .i64 k0, .int .i64 k1, .int .i64 k2, .int .i64 k3, .int .i64 k4]] w fun e w' => CopyPost x.a x.b ((Ix.get l x.a).getD []) w e w' := by
  obtain ⟨k, a, b⟩ := x
  obtain ⟨t, ht⟩ : ∃ t, t = (Ix.get l a).getD [] := ⟨_, rfl⟩
  have HG := Lib.hid (show ∀ W, Below w.heap.size w W → Calls Tryz.prog 55 #[v, .string ⟨a.toArray⟩] W fun e w' => e = .returned (.tuple #[.string ⟨t.toArray⟩, .bool (Ix.get l a).isSome]) ∧ Below W.heap.size W w' from fun W hW => by rw [ht]; exact files_get l a v _ W (hS.below' hW) hs hl)
  dsimp only
  rw [← ht]
  unfold rlV
  dsimp only
  clear hS hs hl ht
  go_enter Tryz.func37, Tryz.ntmps37
  go_upto_region 1 with fail
  obtain ⟨wa, hwa⟩ : ∃ W, W = (w.alloc (.cells #[.int .i64 k, .string ⟨a.toArray⟩, .string ⟨b.toArray⟩] 36)).alloc (.cells #[.int .i64 k0, .int .i64 k1, .int .i64 k2, .int .i64 k3, .int .i64 k4] 65) := ⟨_, rfl⟩
  have hba : Below w.heap.size w wa := by rw [hwa]; exact bseq (below_new _ _) (below_new _ _)
  have hlt : w.heap.size < wa.heap.size := by rw [hwa]; simp; omega
  have hc1 := cells_kept (w := w) (row := #[.int .i64 k, .string ⟨a.toArray⟩, .string ⟨b.toArray⟩]) (t := 36) (W := wa) (by rw [hwa]; exact below_new _ _)
  have f1 := hc1 1 _ rfl
  have f2 := hc1 2 _ rfl
  rw [← hwa]
  clear hwa hc1
  go_upto_region 2 with (go_at_call 55; refine (HG.out _ hba).mono ?_; rintro e w2 ⟨rfl, hb2⟩)
  have f1' := (hb2.cell (p := ⟨w.heap.size, 1, none⟩) hlt).trans f1
  have f2' := (hb2.cell (p := ⟨w.heap.size, 2, none⟩) hlt).trans f2
  have hlt' : w.heap.size < w2.heap.size := Nat.lt_of_lt_of_le hlt hb2.size
  have Hba := Lib.hid (bseq hba hb2)
  clear f1 f2 hlt hba hb2
  refine wp_region_any (by kernel_rfl) ?_
  change wpAny _ _ _ _ _ _ _ (World.drew _)
  have hS1 : Below w2.heap.size w2 w2.drew := (Below.refl _ _).drew
  refine wpAny_of_held (S := fun W => Below w2.heap.size w2 W) _ _ _ _ ?_
  have hS2 : (fun W => Below w2.heap.size w2 W) w2.drew := hS1
  refine wpAnyH_take (i := 0) (v := ?v1) rfl (by kernel_rfl) (by kernel_rfl) (by kernel_rfl) (fun _ _ _ h => h) (Or.inl ⟨by kernel_rfl, fun W hW => ?h1⟩) (by assumption) ?_
  case h1 => (go_simp; rfl)
  refine wpAnyH_take (i := 1) (v := ?v2) rfl (by kernel_rfl) (by kernel_rfl) (by kernel_rfl) (fun _ _ _ h => h) (Or.inl ⟨by kernel_rfl, fun W hW => ?h2⟩) (by assumption) ?_
  case h2 => (have c1 := (hW.cell (p := ⟨w.heap.size, 1, none⟩) hlt').trans f1'; have c2 := (hW.cell (p := ⟨w.heap.size, 2, none⟩) hlt').trans f2'; go_simp; rfl)
  refine wpAnyH_take (i := 2) (v := ?v3) rfl (by kernel_rfl) (by kernel_rfl) (by kernel_rfl) (fun _ _ _ h => h) (Or.inl ⟨by kernel_rfl, fun W hW => ?h3⟩) (by assumption) ?_
  case h3 => (go_simp; rfl)
  refine wpAnyH_take (i := 3) (v := ?v4) rfl (by kernel_rfl) (by kernel_rfl) (by kernel_rfl) (fun _ _ _ h => h) (Or.inl ⟨by kernel_rfl, fun W hW => ?h4⟩) (by assumption) ?_
  case h4 => (go_simp; rfl)
  refine wpAnyH_take (i := 5) (v := ?v5) rfl (by kernel_rfl) (by kernel_rfl) (by kernel_rfl) (fun _ _ _ h => h) (Or.inl ⟨by kernel_rfl, fun W hW => ?h5⟩) (by assumption) ?_
  case h5 => (go_simp; rfl)
  refine wpAnyH_take (i := 6) (v := ?v6) rfl (by kernel_rfl) (by kernel_rfl) (by kernel_rfl) (fun _ _ _ h => h) (Or.inl ⟨by kernel_rfl, fun W hW => ?h6⟩) (by assumption) ?_
  case h6 => (have c1 := (hW.cell (p := ⟨w.heap.size, 1, none⟩) hlt').trans f1'; have c2 := (hW.cell (p := ⟨w.heap.size, 2, none⟩) hlt').trans f2'; go_simp; rfl)
  refine wpAnyH_ready (rs := [4, 7]) (by kernel_rfl) (by simp) ?_
  refine AllReadyH.cons rfl (fun K hK => ?_) ?_
  · skip
    try simp only [Act.put, List.getElem_toArray, List.getElem_cons_zero, List.getElem_cons_succ, List.setIfInBounds_toArray, List.set_cons_zero, List.set_cons_succ]
    go_simp
    refine hK.out _ _ ((below_new w2.drew (.cells #[.string ⟨b.toArray⟩, .string ⟨t.toArray⟩] 60)).mono (Nat.le_refl _) |> hS1.trans) (fun _ => ?_)
    clear K hK
    try simp only [Act.put, List.getElem_toArray, List.getElem_cons_zero, List.getElem_cons_succ, List.setIfInBounds_toArray, List.set_cons_zero, List.set_cons_succ]
    refine wpAnyH_take (i := 8) (v := ?v7) rfl (by kernel_rfl) (by kernel_rfl) (by kernel_rfl) (fun _ _ _ h => h) (Or.inl ⟨by kernel_rfl, fun W hW => ?h7⟩) (by assumption) ?_
    case h7 => (go_simp; rfl)
    refine wpAnyH_ready (rs := [7]) (by kernel_rfl) (by simp) ?_
    refine AllReadyH.cons rfl (fun K hK => ?_) AllReadyH.nil
    try simp only [Act.put, List.getElem_toArray, List.getElem_cons_zero, List.getElem_cons_succ, List.setIfInBounds_toArray, List.set_cons_zero, List.set_cons_succ]
    go_simp
    refine hK.out _ _ (hS1.trans (bseq (below_new w2.drew (.cells #[.string ⟨b.toArray⟩, .string ⟨t.toArray⟩] 60)) (below_new _ (.cells #[.string ⟨a.toArray⟩] 9)))) (fun _ => ?_)
    clear K hK
    try simp only [Act.put, List.getElem_toArray, List.getElem_cons_zero, List.getElem_cons_succ, List.setIfInBounds_toArray, List.set_cons_zero, List.set_cons_succ]
    refine wpAnyH_take (i := 9) (v := ?v8) rfl (by kernel_rfl) (by kernel_rfl) (by kernel_rfl) (fun _ _ _ h => h) (Or.inl ⟨by kernel_rfl, fun W hW => ?h8⟩) (by assumption) ?_
    case h8 => (go_simp; rfl)
    refine wpAnyH_take (i := 10) (v := ?v9) rfl (by kernel_rfl) (by kernel_rfl) (by kernel_rfl) (fun _ _ _ h => h) (Or.inl ⟨by kernel_rfl, fun W hW => ?h9⟩) (by assumption) ?_
    case h9 => (go_simp; rfl)
    refine wpAnyH_done (by kernel_rfl) ?_ _
    try simp only [Act.put, List.getElem_toArray, List.getElem_cons_zero, List.getElem_cons_succ, List.setIfInBounds_toArray, List.set_cons_zero, List.set_cons_succ]
    go_wp2_with fail
    go_ret3
    have z : (w2.drew.alloc (.cells #[.string ⟨b.toArray⟩, .string ⟨t.toArray⟩] 60)).heap.size = w2.drew.heap.size + 1 := by simp
    have hb1 := below_new w2.drew (.cells #[.string ⟨b.toArray⟩, .string ⟨t.toArray⟩] 60)
    have hb2 := below_new (w2.drew.alloc (.cells #[.string ⟨b.toArray⟩, .string ⟨t.toArray⟩] 60)) (.cells #[.string ⟨a.toArray⟩] 9)
    have hwd : Below w.heap.size w w2.drew := Hba.out.drew
    have hF := (own_file w2.drew b t w.heap.size hwd.size).below hb2
    have hR := own_one (w2.drew.alloc (.cells #[.string ⟨b.toArray⟩, .string ⟨t.toArray⟩] 60)) a w.heap.size (bseq hwd hb1).size
    rw [z] at hR
    exact ⟨w2.drew.heap.size, w2.drew.heap.size + 1, rfl, hF, hR, bseq (bseq hwd hb1) hb2⟩
  refine AllReadyH.cons rfl (fun K hK => ?_) AllReadyH.nil
  try simp only [Act.put, List.getElem_toArray, List.getElem_cons_zero, List.getElem_cons_succ, List.setIfInBounds_toArray, List.set_cons_zero, List.set_cons_succ]
  go_simp
  refine hK.out _ _ (hS1.trans (below_new w2.drew (.cells #[.string ⟨a.toArray⟩] 9))) (fun _ => ?_)
  clear K hK
  try simp only [Act.put, List.getElem_toArray, List.getElem_cons_zero, List.getElem_cons_succ, List.setIfInBounds_toArray, List.set_cons_zero, List.set_cons_succ]
  refine wpAnyH_ready (rs := [4]) (by kernel_rfl) (by simp) ?_
  refine AllReadyH.cons rfl (fun K hK => ?_) AllReadyH.nil
  try simp only [Act.put, List.getElem_toArray, List.getElem_cons_zero, List.getElem_cons_succ, List.setIfInBounds_toArray, List.set_cons_zero, List.set_cons_succ]
  go_simp
  refine hK.out _ _ (hS1.trans (bseq (below_new w2.drew (.cells #[.string ⟨a.toArray⟩] 9)) (below_new _ (.cells #[.string ⟨b.toArray⟩, .string ⟨t.toArray⟩] 60)))) (fun _ => ?_)
  clear K hK
  try simp only [Act.put, List.getElem_toArray, List.getElem_cons_zero, List.getElem_cons_succ, List.setIfInBounds_toArray, List.set_cons_zero, List.set_cons_succ]
  refine wpAnyH_take (i := 8) (v := ?v10) rfl (by kernel_rfl) (by kernel_rfl) (by kernel_rfl) (fun _ _ _ h => h) (Or.inl ⟨by kernel_rfl, fun W hW => ?h10⟩) (by assumption) ?_
  case h10 => (go_simp; rfl)
  refine wpAnyH_take (i := 9) (v := ?v11) rfl (by kernel_rfl) (by kernel_rfl) (by kernel_rfl) (fun _ _ _ h => h) (Or.inl ⟨by kernel_rfl, fun W hW => ?h11⟩) (by assumption) ?_
  case h11 => (go_simp; rfl)
  refine wpAnyH_take (i := 10) (v := ?v12) rfl (by kernel_rfl) (by kernel_rfl) (by kernel_rfl) (fun _ _ _ h => h) (Or.inl ⟨by kernel_rfl, fun W hW => ?h12⟩) (by assumption) ?_
  case h12 => (go_simp; rfl)
  refine wpAnyH_done (by kernel_rfl) ?_ _
  try simp only [Act.put, List.getElem_toArray, List.getElem_cons_zero, List.getElem_cons_succ, List.setIfInBounds_toArray, List.set_cons_zero, List.set_cons_succ]
  go_wp2_with fail
  go_ret3
  have z : (w2.drew.alloc (.cells #[.string ⟨a.toArray⟩] 9)).heap.size = w2.drew.heap.size + 1 := by simp
  have hb1 := below_new w2.drew (.cells #[.string ⟨a.toArray⟩] 9)
  have hb2 := below_new (w2.drew.alloc (.cells #[.string ⟨a.toArray⟩] 9)) (.cells #[.string ⟨b.toArray⟩, .string ⟨t.toArray⟩] 60)
  have hwd : Below w.heap.size w w2.drew := Hba.out.drew
  have hR := (own_one w2.drew a w.heap.size hwd.size).below hb2
  have hF := own_file (w2.drew.alloc (.cells #[.string ⟨a.toArray⟩] 9)) b t w.heap.size (bseq hwd hb1).size
  rw [z] at hF
  exact ⟨w2.drew.heap.size + 1, w2.drew.heap.size, rfl, hF, hR, bseq (bseq hwd hb1) hb2⟩
end Go.Proofs.YtibinlpbcoihoaaGreatDoor
set_option linter.unusedSimpArgs false
set_option linter.unusedVariables false
namespace Go.Proofs.YtibinlpbcoihoaaGreatDoor
open Go.RowKit
namespace Ru
abbrev Fl2 := List UInt8 × List UInt8
def lookN (l : List Fl2) (ns : List (List UInt8)) : Nat → List Sn
  | 0 => []
  | k + 1 => match ns[k]? with
    | none => lookN l ns k
    | some n => if (ns.take k).any (fun s => s == n) then lookN l ns k else lookN l ns k ++ [⟨n, (Ix.get l n).isSome, (Ix.get l n).getD []⟩]
def look (l : List Fl2) (ns : List (List UInt8)) : List Sn := lookN l ns ns.length
theorem lookN_old (l : List Fl2) (ns : List (List UInt8)) (k : Nat) (n : List UInt8) (h : ns[k]? = some n) (ha : (ns.take k).any (fun s => s == n) = true) : lookN l ns (k + 1) = lookN l ns k := by
  rw [lookN, h]; dsimp only; rw [if_pos ha]
theorem lookN_new (l : List Fl2) (ns : List (List UInt8)) (k : Nat) (n : List UInt8) (h : ns[k]? = some n) (ha : (ns.take k).any (fun s => s == n) = false) : lookN l ns (k + 1) = lookN l ns k ++ [⟨n, (Ix.get l n).isSome, (Ix.get l n).getD []⟩] := by
  rw [lookN, h]; dsimp only; rw [if_neg (by rw [ha]; simp)]
theorem lookN_len (l : List Fl2) (ns : List (List UInt8)) : ∀ k, (lookN l ns k).length ≤ k
  | 0 => Nat.le_refl _
  | k + 1 => by
    have := lookN_len l ns k
    rw [lookN]
    split
    · omega
    · split
      · omega
      · rw [List.length_append]; simp; omega
end Ru
set_option maxRecDepth 100000 in
set_option maxHeartbeats 1600000 in
theorem record_look (l : List (List UInt8 × List UInt8)) (ns : List (List UInt8)) (v u : Value) (S S' : Nat → Prop) (w : World) (hS : SliceIn S 2 RFl w v l) (hU : SliceIn S' 1 RStr w u ns) (hs : Ix.Sorted l) (hl : l.length ≤ 1000000) (hn : ns.length ≤ 100000) :
    Calls Tryz.prog 48 #[v, u] w fun e w' => ∃ p c, e = .returned (.slice p (Ru.look l ns).length c) ∧ OwnL w.heap.size 102 3 RSn w' (.slice p (Ru.look l ns).length c) (Ru.look l ns) ∧ Below w.heap.size w w' := by
  obtain ⟨i0, hi, hz0, hz1, hz2⟩ := info_parts seen_infoP
  have Hi := Lib.hid hi; have Hz0 := Lib.hid hz0; have Hz1 := Lib.hid hz1; have Hz2 := Lib.hid hz2; clear hi hz0 hz1 hz2
  obtain ⟨pa, cap, rfl, hcap⟩ : ∃ p c, u = .slice p ns.length c ∧ ns.length ≤ c := by obtain ⟨p, c, h, h2, _⟩ := hU; exact ⟨p, c, h, h2⟩
  have HU := Lib.hid hU.any; have Hn := Lib.hid hn
  have HG := Lib.hid (show ∀ W, Below w.heap.size w W → ∀ t : List UInt8, Calls Tryz.prog 55 #[v, .string ⟨t.toArray⟩] W fun e w' => e = .returned (.tuple #[.string ⟨((Ix.get l t).getD []).toArray⟩, .bool (Ix.get l t).isSome]) ∧ Below W.heap.size W w' from fun W hW t => files_get l t v _ W (hS.below' hW) hs hl)
  clear hS hU hs hl hn
  go_enter Tryz.func48, Tryz.ntmps48
  go_wp2_with fail
  go_loopw [5, 12] (fun ov iv wr => ∃ (k : Nat) (p : Option Addr) (c : Nat) (A : List Ru.Sn), k ≤ ns.length ∧ A = Ru.lookN l ns k ∧ iv = .int .i64 (k : Int) ∧ ov = .slice p A.length c ∧ OwnL w.heap.size 102 3 RSn wr ov A ∧ Below w.heap.size w wr) (fun _ iv _ => ns.length - (intOf iv).toNat)
  case atStart => exact ⟨0, none, 0, [], Nat.zero_le _, rfl, rfl, rfl, OwnL.nil _ _ _ _ _, Below.refl _ _⟩
  case round =>
    obtain ⟨k, p, c, A, hk, hA, rfl, rfl, hO, hb⟩ := hrel
    by_cases hlt : k < ns.length
    · obtain ⟨n, hx⟩ : ∃ n, ns[k]? = some n := ⟨_, List.getElem?_eq_getElem hlt⟩
      obtain ⟨b, off, rfl⟩ := row_some HU.out hx
      have ce := (HU.out.below hb (fun _ _ _ h => h)).cellS hx
      have hlt' : (k : Int) < (ns.length : Int) := by omega
      have hkc : (k : Int) ≤ (cap : Int) := by omega
      have Hwk := Lib.hid (f2_w1 k (by have := Hn.out; omega))
      have HAl := Lib.hid (show A.length ≤ 100000 by rw [hA]; have := Ru.lookN_len l ns k; have := Hn.out; omega)
      have hpre := (HU.out.below hb (fun _ _ _ h => h)).pre k (Nat.le_of_lt hlt)
      have Hx := Lib.hid hx; have HO := Lib.hid hO; have Hb := Lib.hid hb; have Hlt := Lib.hid hlt; have HA := Lib.hid hA; have Hpre := Lib.hid hpre
      clear hx hO hb hlt hk hA hpre
      cases hany : (ns.take k).any (fun s => s == n) with
      | true =>
        have Hnx := Lib.hid (show A = Ru.lookN l ns (k + 1) by rw [Ru.lookN_old l ns k n Hx.out hany]; exact HA.out)
        have Hc := Lib.hid (std_holds (ns.take k) n true _ _ wr Hpre.out hany)
        clear hany
        go_wp2_with (go_at_call 62; refine Hc.out.mono ?_; rintro e w1 ⟨rfl, rfl⟩)
        go_roundw
        case rel => exact ⟨k + 1, p, c, A, by have := Hlt.out; omega, Hnx.out, by first | rfl | rw [Hwk.out], rfl, HO.out, Hb.out⟩
        case measure => have := Hlt.out; (try rw [Hwk.out]); simp [intOf]; omega
      | false =>
        obtain ⟨g1, hg1⟩ : ∃ g, g = (Ix.get l n).isSome := ⟨_, rfl⟩
        obtain ⟨t1, ht1⟩ : ∃ t, t = (Ix.get l n).getD [] := ⟨_, rfl⟩
        have Hnx := Lib.hid (show A ++ [⟨n, g1, t1⟩] = Ru.lookN l ns (k + 1) by rw [Ru.lookN_new l ns k n Hx.out hany, hg1, ht1, ← HA.out])
        have Hc := Lib.hid (std_holds (ns.take k) n false _ _ wr Hpre.out hany)
        have hgg := HG.out wr Hb.out n
        rw [← hg1, ← ht1] at hgg
        have Hgg := Lib.hid hgg
        obtain ⟨fl, hown, hrep⟩ := HO.out
        have Hown := Lib.hid hown; have Hrep := Lib.hid hrep
        have Hm1 := Lib.hid (show A.length + 1 ≤ maxLen by have := HAl.out; unfold maxLen; omega)
        have Hn1 := Lib.hid (show (A.length + 1) * 40 ≤ 140737488355328 by have := HAl.out; omega)
        clear hany hgg hg1 ht1 hown hrep
        go_wp2_with first
          | (go_at_call 62; refine Hc.out.mono ?_; rintro e w1 ⟨rfl, rfl⟩)
          | (go_at_call 55; refine Hgg.out.mono ?_; rintro e w2 ⟨rfl, hb2⟩; have own2 := Lib.hid (own_below Hown.out hb2); have Hb2 := Lib.hid (Hb.out.trans (hb2.mono Hb.out.size)); have H0W := Lib.hid (Hb.out.trans (hb2.mono Hb.out.size)).size; clear hb2)
          | (at_builtin; go_loud (refine wpList_append1 rfl (.tmp 29) (.tmp 34) 66 rfl w.heap.size 102 i0 (.agg #[.string ⟨#[]⟩, .bool false, .string ⟨#[]⟩]) 3 40 Tryz.underlying66 Hi.out Hz0.out Hz1.out Hz2.out rfl (by decide) _ _ _ own2.out rfl [.string ⟨n.toArray⟩, .bool g1, .string ⟨t1.toArray⟩] rfl (by simp) rfl (by simp [Value.oneCell']) Hm1.out Hn1.out H0W.out ?_); intro v2 w9 own4 g2 at2; obtain ⟨p2, cap2, hv2, _⟩ := own4.form (Nat.succ_pos _); subst hv2)
        go_roundw
        case rel =>
          refine ⟨k + 1, some ⟨p2, 0, none⟩, cap2, A ++ [⟨n, g1, t1⟩], by have := Hlt.out; omega, Hnx.out, by first | rfl | rw [Hwk.out], by rw [List.length_append]; rfl, ?_, Hb2.out.grown g2 H0W.out (fun q e => (World.ownsRow.lt own2.out q e).1)⟩
          exact ⟨_, by rw [List.length_append]; exact own4, RepRow.snoc (R := RSn) (x := ⟨n, g1, t1⟩) (vs := [.string ⟨n.toArray⟩, .bool g1, .string ⟨t1.toArray⟩]) rfl Hrep.out⟩
        case measure => have := Hlt.out; (try rw [Hwk.out]); simp [intOf]; omega
    · have he : k = ns.length := by omega
      subst he
      have HA := Lib.hid (show A = Ru.look l ns from hA)
      have HO := Lib.hid hO; have Hb := Lib.hid hb
      clear hlt hk hO hb hA
      go_wp2_with fail
      go_ret
      rw [← HA.out]
      exact ⟨p, c, rfl, HO.out, Hb.out⟩
end Go.Proofs.YtibinlpbcoihoaaGreatDoor
