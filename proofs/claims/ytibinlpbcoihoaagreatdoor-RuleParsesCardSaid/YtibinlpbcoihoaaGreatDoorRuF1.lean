/- Records, and the walks of stetlaw20.Seens and stetlaw20.Refs. -/
import Derived.Test.YtibinlpbcoihoaaGreatDoorRuW6
import Derived.OrdersHeld
set_option linter.unusedSimpArgs false
set_option linter.unusedVariables false
namespace Go.Proofs.YtibinlpbcoihoaaGreatDoor
open Go.RowKit
theorem wp_append1 {P : Program} {o : Oper} {a : Act} {w1 : World} {K : Act → World → Prop} {Q : Exit → Act → World → Prop} (s x : Operand) (t : TypeId)
    (ho : o.op = .call { callee := .builtin .append, args := #[s, x], argTypes := #[t, t] })
    (base : Nat) (e : TypeId) (i : TypeInfo) (z : Value) (size bytes : Nat) (ht : P.underlying t = some (.slice e)) (hi : P.info? e = some i) (hz : i.zero = some z)
    (hsize : i.size = size) (hby : i.bytes = bytes) (hzs : z.cells.size = size) (hsz : 0 < size)
    (v : Value) (n : Nat) (xs : List Value) (hown : w1.ownsRow base e size v n xs) (hs : a.eval s = v)
    (news : List Value) {g : Nat} (hx : a.eval x = .slice (some ⟨g, 0, none⟩) 1 1) (hg : g = w1.heap.size) (hl : news.length = size) (h1 : ∀ u ∈ news, u.oneCell' = true)
    (h63 : n + 1 ≤ maxLen) (hbytes : (n + 1) * bytes ≤ 140737488355328) (hbase : base ≤ w1.heap.size)
    (h : ∀ v' w', w'.ownsRow base e size v' (n + 1) (xs ++ news) → w1.grownBy w' v.ownBlock → (v'.ownBlock = v.ownBlock ∨ v'.ownBlock = some (w1.heap.size + 1)) → K (a.put o.dst v') w') :
    o.wp P a (w1.alloc (.cells news.toArray e)) K Q := by
  subst hg
  obtain ⟨v', w', hr, h2, h3, _, h4⟩ := run_append_own_at (P := P) (w1.alloc (.cells news.toArray e)) base t o.type e i z size bytes ht hi hz hsize hby hzs hsz v n xs (hown.alloc _) ⟨w1.heap.size, 0, none⟩ 1 1 news
    (by rw [hl]; simp) (fun j u hu => by
      have hadd : (⟨w1.heap.size, 0, none⟩ : Addr).add j = ⟨w1.heap.size, j, none⟩ := by unfold Addr.add; split <;> simp_all
      rw [hadd, cell_of_row _ _ j _ _ _ (heap_alloc_new w1 _)]
      simpa using hu) h1 h63 hbytes (by simp; omega)
  unfold Oper.wp execOp
  simp only [ho, resolve, invoke, builtin, Sem.run_bind, Sem.run_pure, Result.andThen_ok, List.map_toArray, List.map_cons, List.map_nil, hs, hx, hr]
  exact h v' w' h2 (grown_trans (World.grownBy_alloc w1 _ _) h3) (by simpa using h4)

namespace Ru
structure Sn where
  name : List UInt8
  is : Bool
  text : List UInt8
  deriving DecidableEq
structure Rec where
  rule : List UInt8
  reads : List Sn
  writes : List (List UInt8 × List UInt8)
  deriving DecidableEq
end Ru
def RSn (x : Ru.Sn) (vs : List Value) : Prop := vs = [.string ⟨x.name.toArray⟩, .bool x.is, .string ⟨x.text.toArray⟩]
theorem RSn.size (x : Ru.Sn) (vs : List Value) (h : RSn x vs) : vs.length = 3 := by rw [h]; rfl
abbrev RecV := Ru.Rec × Value × Value
def RRec (p : RecV) (vs : List Value) : Prop := vs = [.string ⟨p.1.rule.toArray⟩, p.2.1, p.2.2]
theorem RRec.size (x : RecV) (vs : List Value) (h : RRec x vs) : vs.length = 3 := by rw [h]; rfl
/-- what a record's parts lie in -/
structure PartsIn (w : World) (p : RecV) : Prop where
  r : SliceIn (fun _ => True) 3 RSn w p.2.1 p.1.reads
  w : SliceIn (fun _ => True) 2 RFl w p.2.2 p.1.writes
theorem PartsIn.below {w w' : World} {p : RecV} (h : PartsIn w p) (hb : Below w.heap.size w w') : PartsIn w' p := ⟨sliceBelow h.r hb, sliceBelow h.w hb⟩
theorem seen_infoR : (Tryz.prog.info? 72).map (fun i => (i.zero, i.size, i.bytes)) = some (some (.agg #[.string ⟨#[]⟩, .bool false, .string ⟨#[]⟩]), 3, 40) := by kernel_rfl
theorem seen_infoP : (Tryz.prog.info? 102).map (fun i => (i.zero, i.size, i.bytes)) = some (some (.agg #[.string ⟨#[]⟩, .bool false, .string ⟨#[]⟩]), 3, 40) := by kernel_rfl
theorem rec_infoR : (Tryz.prog.info? 75).map (fun i => (i.zero, i.size, i.bytes)) = some (some (.agg #[.string ⟨#[]⟩, .slice none 0 0, .slice none 0 0]), 3, 64) := by kernel_rfl
/-- the cells of one of a row of three -/
theorem row3_cells {α : Type} {R : α → List Value → Prop} {S : Nat → Prop} {w : World} {b o n c : Nat} {l : List α} (h : SliceIn S 3 R w (.slice (some ⟨b, o, none⟩) n c) l) {i : Nat} {x : α} (hx : l[i]? = some x) :
    ∃ vs, R x vs ∧ ∀ j v, vs[j]? = some v → w.cell? ⟨b, o + i * 3 + j, none⟩ = some v := by
  obtain ⟨p, c', he, _, _, hat⟩ := h
  obtain ⟨b', o', vs, hp, _, _, hR, hc⟩ := hat i x hx
  simp only [Value.slice.injEq] at he
  obtain ⟨rfl, _, _⟩ := he
  cases hp
  exact ⟨vs, hR, fun j v hv => by rw [Nat.add_assoc]; exact hc j v hv⟩
theorem row_some {α : Type} {R : α → List Value → Prop} {m : Nat} {S : Nat → Prop} {w : World} {p : Option Addr} {n c : Nat} {l : List α} (h : SliceIn S m R w (.slice p n c) l) {i : Nat} {x : α} (hx : l[i]? = some x) : ∃ b o, p = some ⟨b, o, none⟩ := by
  obtain ⟨p', c', he, _, _, hat⟩ := h
  obtain ⟨b', o', vs, hp, _⟩ := hat i x hx
  simp only [Value.slice.injEq] at he
  obtain ⟨rfl, _, _⟩ := he
  exact ⟨b', o', hp⟩
theorem sn_cells {S : Nat → Prop} {w : World} {b o n c : Nat} {l : List Ru.Sn} (h : SliceIn S 3 RSn w (.slice (some ⟨b, o, none⟩) n c) l) {i : Nat} {x : Ru.Sn} (hx : l[i]? = some x) :
    w.cell? ⟨b, o + i * 3, none⟩ = some (.string ⟨x.name.toArray⟩) ∧ w.cell? ⟨b, o + i * 3 + 1, none⟩ = some (.bool x.is) ∧ w.cell? ⟨b, o + i * 3 + 2, none⟩ = some (.string ⟨x.text.toArray⟩) := by
  obtain ⟨vs, hR, hc⟩ := row3_cells h hx
  have hR : vs = _ := hR
  subst hR
  exact ⟨hc 0 _ rfl, hc 1 _ rfl, hc 2 _ rfl⟩
theorem rec_cells {S : Nat → Prop} {w : World} {b o n c : Nat} {l : List RecV} (h : SliceIn S 3 RRec w (.slice (some ⟨b, o, none⟩) n c) l) {i : Nat} {x : RecV} (hx : l[i]? = some x) :
    w.cell? ⟨b, o + i * 3, none⟩ = some (.string ⟨x.1.rule.toArray⟩) ∧ w.cell? ⟨b, o + i * 3 + 1, none⟩ = some x.2.1 ∧ w.cell? ⟨b, o + i * 3 + 2, none⟩ = some x.2.2 := by
  obtain ⟨vs, hR, hc⟩ := row3_cells h hx
  have hR : vs = _ := hR
  subst hR
  exact ⟨hc 0 _ rfl, hc 1 _ rfl, hc 2 _ rfl⟩
set_option maxRecDepth 100000 in
set_option maxHeartbeats 1600000 in
theorem law20_seens (l : List Ru.Sn) (v : Value) (S : Nat → Prop) (w : World) (hS : SliceIn S 3 RSn w v l) (hl : l.length ≤ 100000) :
    Calls Tryz.prog 51 #[v] w fun e w' => ∃ g c : Nat, e = .returned (.slice (some ⟨g, 0, none⟩) l.length c) ∧ OwnL w.heap.size 72 3 RSn w' (.slice (some ⟨g, 0, none⟩) l.length c) l ∧ Below w.heap.size w w' := by
  obtain ⟨i0, hi, hz0, hz1, hz2⟩ := info_parts seen_infoR
  have Hi := Lib.hid hi; have Hz0 := Lib.hid hz0; have Hz1 := Lib.hid hz1; have Hz2 := Lib.hid hz2; clear hi hz0 hz1 hz2
  obtain ⟨pa, cap, rfl⟩ : ∃ p c, v = .slice p l.length c := by obtain ⟨p, c, h, _⟩ := hS; exact ⟨p, c, h⟩
  have HS := Lib.hid hS; have Hl := Lib.hid hl
  clear hS hl
  have hO := Lib.hid (OwnL.made w.heap.size 72 3 RSn w (Nat.le_refl _))
  have hB := Lib.hid (below_new w (.cells #[] 72))
  go_enter Tryz.func51, Tryz.ntmps51
  go_wp2_with fail
  go_loopw [3, 4] (fun ov iv wr => ∃ k g c : Nat, k ≤ l.length ∧ iv = .int .i64 (k : Int) ∧ ov = .slice (some ⟨g, 0, none⟩) k c ∧ OwnL w.heap.size 72 3 RSn wr ov (l.take k) ∧ Below w.heap.size w wr) (fun _ iv _ => l.length - (intOf iv).toNat)
  case atStart => exact ⟨0, _, _, Nat.zero_le _, rfl, rfl, hO.out, hB.out⟩
  case round =>
    clear hO hB
    obtain ⟨k, g, c, hk, rfl, rfl, hO, hb⟩ := hrel
    by_cases hlt : k < l.length
    · obtain ⟨x, hx⟩ : ∃ x, l[k]? = some x := ⟨_, List.getElem?_eq_getElem hlt⟩
      obtain ⟨b, off, rfl⟩ := row_some HS.out hx
      have HF := Lib.hid (show ∀ W, Below w.heap.size w W → W.cell? ⟨b, off + k * 3, none⟩ = some (.string ⟨x.name.toArray⟩) ∧ W.cell? ⟨b, off + k * 3 + 1, none⟩ = some (.bool x.is) ∧ W.cell? ⟨b, off + k * 3 + 2, none⟩ = some (.string ⟨x.text.toArray⟩) from fun W hW => sn_cells (HS.out.below hW (fun _ _ _ h => h)) hx)
      have hlt' : (k : Int) < (l.length : Int) := by omega
      have hwk := f2_w1 k (by have := Hl.out; omega)
      have hsn := takeS l k x hx
      have hll : (l.take k).length = k := by rw [List.length_take]; omega
      have hO := hO.below (Below.refl _ _).drew
      obtain ⟨fl, hown, hrep⟩ := hO
      rw [hll] at hown
      have Hown := Lib.hid hown; have Hrep := Lib.hid hrep; have Hb := Lib.hid hb; have Hsn := Lib.hid hsn; have Hlt := Lib.hid hlt; have Hwk := Lib.hid hwk; have Hll := Lib.hid hll
      have Hm1 := Lib.hid (show k + 1 ≤ maxLen by have := Hl.out; unfold maxLen; omega)
      have Hn1 := Lib.hid (show (k + 1) * 40 ≤ 140737488355328 by have := Hl.out; omega)
      clear hown hrep hb hsn hlt hwk hx hk hll
      go_upto_region 5 with fail
      refine wp_region_any (by kernel_rfl) ?_
      change wpAny _ _ _ _ _ _ _ (World.drew _)
      skip
      refine wpAny_of_held (S := fun W => Below w.heap.size w W) _ _ _ _ ?_
      have hS1 : Below w.heap.size w wr.drew := Hb.out.drew
      have hS2 : (fun W => Below w.heap.size w W) wr.drew := hS1
      refine wpAnyH_take (i := 0) (v := ?v1) rfl (by kernel_rfl) (by kernel_rfl) (by kernel_rfl) (fun _ _ _ h => h) (Or.inl ⟨by kernel_rfl, fun W hW => ?h1⟩) (by assumption) ?_
      case h1 => (go_simp; rfl)
      refine wpAnyH_take (i := 1) (v := ?v2) rfl (by kernel_rfl) (by kernel_rfl) (by kernel_rfl) (fun _ _ _ h => h) (Or.inl ⟨by kernel_rfl, fun W hW => ?h2⟩) (by assumption) ?_
      case h2 => (go_simp; rfl)
      refine wpAnyH_take (i := 2) (v := ?v3) rfl (by kernel_rfl) (by kernel_rfl) (by kernel_rfl) (fun _ _ _ h => h) (Or.inl ⟨by kernel_rfl, fun W hW => ?h3⟩) (by assumption) ?_
      case h3 => (go_simp; rfl)
      refine wpAnyH_take (i := 3) (v := ?v4) rfl (by kernel_rfl) (by kernel_rfl) (by kernel_rfl) (fun _ _ _ h => h) (Or.inl ⟨by kernel_rfl, fun W hW => ?h4⟩) (by assumption) ?_
      case h4 => (go_simp; rfl)
      refine wpAnyH_take (i := 4) (v := ?v5) rfl (by kernel_rfl) (by kernel_rfl) (by kernel_rfl) (fun _ _ _ h => h) (Or.inl ⟨by kernel_rfl, fun W hW => ?h5⟩) (by assumption) ?_
      case h5 => (go_simp; rfl)
      refine wpAnyH_take (i := 5) (v := ?v6) rfl (by kernel_rfl) (by kernel_rfl) (by kernel_rfl) (fun _ _ _ h => h) (Or.inl ⟨by kernel_rfl, fun W hW => ?h6⟩) (by assumption) ?_
      case h6 => (obtain ⟨c0, c1, c2⟩ := HF.out W hW; go_simp; rfl)
      refine wpAnyH_take (i := 6) (v := ?v7) rfl (by kernel_rfl) (by kernel_rfl) (by kernel_rfl) (fun _ _ _ h => h) (Or.inl ⟨by kernel_rfl, fun W hW => ?h7⟩) (by assumption) ?_
      case h7 => (go_simp; rfl)
      refine wpAnyH_take (i := 7) (v := ?v8) rfl (by kernel_rfl) (by kernel_rfl) (by kernel_rfl) (fun _ _ _ h => h) (Or.inl ⟨by kernel_rfl, fun W hW => ?h8⟩) (by assumption) ?_
      case h8 => (go_simp; rfl)
      refine wpAnyH_take (i := 8) (v := ?v9) rfl (by kernel_rfl) (by kernel_rfl) (by kernel_rfl) (fun _ _ _ h => h) (Or.inl ⟨by kernel_rfl, fun W hW => ?h9⟩) (by assumption) ?_
      case h9 => (go_simp; rfl)
      refine wpAnyH_take (i := 9) (v := ?v10) rfl (by kernel_rfl) (by kernel_rfl) (by kernel_rfl) (fun _ _ _ h => h) (Or.inl ⟨by kernel_rfl, fun W hW => ?h10⟩) (by assumption) ?_
      case h10 => (go_simp; rfl)
      refine wpAnyH_take (i := 10) (v := ?v11) rfl (by kernel_rfl) (by kernel_rfl) (by kernel_rfl) (fun _ _ _ h => h) (Or.inl ⟨by kernel_rfl, fun W hW => ?h11⟩) (by assumption) ?_
      case h11 => (obtain ⟨c0, c1, c2⟩ := HF.out W hW; go_simp; rfl)
      refine wpAnyH_take (i := 11) (v := ?v12) rfl (by kernel_rfl) (by kernel_rfl) (by kernel_rfl) (fun _ _ _ h => h) (Or.inl ⟨by kernel_rfl, fun W hW => ?h12⟩) (by assumption) ?_
      case h12 => (go_simp; rfl)
      refine wpAnyH_take (i := 12) (v := ?v13) rfl (by kernel_rfl) (by kernel_rfl) (by kernel_rfl) (fun _ _ _ h => h) (Or.inl ⟨by kernel_rfl, fun W hW => ?h13⟩) (by assumption) ?_
      case h13 => (go_simp; rfl)
      refine wpAnyH_take (i := 13) (v := ?v14) rfl (by kernel_rfl) (by kernel_rfl) (by kernel_rfl) (fun _ _ _ h => h) (Or.inl ⟨by kernel_rfl, fun W hW => ?h14⟩) (by assumption) ?_
      case h14 => (go_simp; rfl)
      refine wpAnyH_take (i := 14) (v := ?v15) rfl (by kernel_rfl) (by kernel_rfl) (by kernel_rfl) (fun _ _ _ h => h) (Or.inl ⟨by kernel_rfl, fun W hW => ?h15⟩) (by assumption) ?_
      case h15 => (go_simp; rfl)
      refine wpAnyH_take (i := 15) (v := ?v16) rfl (by kernel_rfl) (by kernel_rfl) (by kernel_rfl) (fun _ _ _ h => h) (Or.inl ⟨by kernel_rfl, fun W hW => ?h16⟩) (by assumption) ?_
      case h16 => (obtain ⟨c0, c1, c2⟩ := HF.out W hW; go_simp; rfl)
      refine wpAnyH_take (i := 16) (v := ?v17) rfl (by kernel_rfl) (by kernel_rfl) (by kernel_rfl) (fun _ _ _ h => h) (Or.inl ⟨by kernel_rfl, fun W hW => ?h17⟩) (by assumption) ?_
      case h17 => (go_simp; rfl)
      refine wpAnyH_ready (rs := [17]) (by kernel_rfl) (by simp) ?_
      refine AllReadyH.cons rfl (fun K hK => ?_) AllReadyH.nil
      try simp only [Act.put, List.getElem_toArray, List.getElem_cons_zero, List.getElem_cons_succ, List.setIfInBounds_toArray, List.set_cons_zero, List.set_cons_succ]
      go_simp
      refine hK.out _ _ (hS1.alloc hS1.size (.cells #[.string ⟨x.name.toArray⟩, .bool x.is, .string ⟨x.text.toArray⟩] 72)) (fun _ => ?_)
      clear K hK
      try simp only [Act.put, List.getElem_toArray, List.getElem_cons_zero, List.getElem_cons_succ, List.setIfInBounds_toArray, List.set_cons_zero, List.set_cons_succ]
      refine wpAnyH_ready (rs := [18]) (by kernel_rfl) (by simp) ?_
      refine AllReadyH.cons rfl (fun K hK => ?_) AllReadyH.nil
      try simp only [Act.put, List.getElem_toArray, List.getElem_cons_zero, List.getElem_cons_succ, List.setIfInBounds_toArray, List.set_cons_zero, List.set_cons_succ]
      rw [if_pos (by kernel_rfl)]
      refine wp_append1 (.tmp 12) (.tmp 29) 73 rfl w.heap.size 72 i0 (.agg #[.string ⟨#[]⟩, .bool false, .string ⟨#[]⟩]) 3 40 Tryz.underlying73 Hi.out Hz0.out Hz1.out Hz2.out (by rfl) (by decide) _ k fl Hown.out rfl [.string ⟨x.name.toArray⟩, .bool x.is, .string ⟨x.text.toArray⟩] rfl rfl rfl (by simp [Value.oneCell']) Hm1.out Hn1.out hS1.size ?_
      intro v2 w9 own6 g2 at2
      have hb9 := hS1.grown g2 hS1.size (fun q e => (World.ownsRow.lt Hown.out q e).1)
      refine hK.out _ _ (hb9) (fun _ => ?_)
      clear K hK
      try simp only [Act.put, List.getElem_toArray, List.getElem_cons_zero, List.getElem_cons_succ, List.setIfInBounds_toArray, List.set_cons_zero, List.set_cons_succ]
      refine wpAnyH_take (i := 19) (v := ?v18) rfl (by kernel_rfl) (by kernel_rfl) (by kernel_rfl) (fun _ _ _ h => h) (Or.inl ⟨by kernel_rfl, fun W hW => ?h18⟩) (by assumption) ?_
      case h18 => (go_simp; rfl)
      refine wpAnyH_done (by kernel_rfl) ?_ _
      try simp only [Act.put, List.getElem_toArray, List.getElem_cons_zero, List.getElem_cons_succ, List.setIfInBounds_toArray, List.set_cons_zero, List.set_cons_succ]
      obtain ⟨p2, cap2, hv2, _⟩ := own6.form (Nat.succ_pos _)
      subst hv2
      go_wp2_with fail
      go_roundw
      case rel =>
        refine ⟨k + 1, p2, cap2, by have := Hlt.out; omega, by first | rfl | rw [Hwk.out], rfl, ?_, hb9⟩
        rw [Hsn.out]
        refine ⟨_, ?_, RepRow.snoc (R := RSn) (x := x) (vs := [.string ⟨x.name.toArray⟩, .bool x.is, .string ⟨x.text.toArray⟩]) rfl Hrep.out⟩
        rw [List.length_append, Hll.out]
        exact own6
      case measure => have := Hlt.out; (try rw [Hwk.out]); simp [intOf]; omega
    · have he : k = l.length := by omega
      subst he
      rw [List.take_length] at hO
      have HO := Lib.hid hO; have Hb := Lib.hid hb
      clear hO hb hlt hk
      go_wp2_with fail
      go_ret
      exact ⟨g, c, rfl, HO.out, Hb.out⟩
end Go.Proofs.YtibinlpbcoihoaaGreatDoor
