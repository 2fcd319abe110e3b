/- The walk of package entry's Parse. -/
import Derived.Test.YtanbcokkfbidbaaGreatDoorPD
namespace Go.Proofs.YtanbcokkfbidbaaGreatDoor
open Go.RowKit

theorem find_at (l : List UInt8) (c : Int) (b : UInt8) (hc : c.toNat.toUInt8 = b) (w : World) (v : Int) (hv : Lib.indexByte l b = v) :
    Calls Tryz.prog 40 #[.string ⟨l.toArray⟩, .int .u8 c] w fun e w' => e = .returned (.int .i64 v) ∧ w = w' := by
  refine (Tryz.strings_IndexByte _ _ _).mono (fun e w' ⟨h1, h2⟩ => ⟨?_, h2.symm⟩)
  rw [h1, hc, hv]
theorem parse_start (s : List UInt8) (w : World) (t : TypeId) :
    PIn s (w.heap.size + 1) w.heap.size (w.heap.size + 1 + 1) 0 w ⟨s, [], fun _ => none, []⟩ [] (((w.alloc (.map #[] 0)).alloc (.cells #[.string ⟨s.toArray⟩, .int .i64 0, .string ⟨#[]⟩, .map (some w.heap.size), .slice none 0 0] t)).alloc (.map #[] 0)) (.slice none 0 0) (.slice none 0 0) := by
  obtain ⟨W1, h1⟩ : ∃ W1, W1 = w.alloc (.map #[] 0) := ⟨_, rfl⟩
  obtain ⟨W2, h2⟩ : ∃ W2, W2 = W1.alloc (.cells #[.string ⟨s.toArray⟩, .int .i64 0, .string ⟨#[]⟩, .map (some w.heap.size), .slice none 0 0] t) := ⟨_, rfl⟩
  rw [← h1, ← h2]
  have s1 : W1.heap.size = w.heap.size + 1 := by rw [h1, size_alloc1]
  have s2 : W2.heap.size = w.heap.size + 1 + 1 := by rw [h2, size_alloc1, s1]
  have b1 : Below w.heap.size w W1 := by rw [h1]; exact below_new _ _
  have b2 : Below W1.heap.size W1 W2 := by rw [h2]; exact below_new _ _
  have b3 := below_new W2 (.map #[] 0)
  have c : ∀ (i : Nat) (u : Value), #[Value.string ⟨s.toArray⟩, .int .i64 0, .string ⟨#[]⟩, .map (some w.heap.size), .slice none 0 0][i]? = some u → (W2.alloc (.map #[] 0)).cell? ⟨w.heap.size + 1, i, none⟩ = some u := by
    intro i u hu
    refine (b3.cell (p := ⟨w.heap.size + 1, i, none⟩) (by show w.heap.size + 1 < _; omega)).trans ?_
    rw [h2, ← s1, cell_of_row _ _ _ _ _ _ (heap_alloc_new W1 _)]
    exact hu
  have f : ∀ i, (W2.alloc (.map #[] 0)).frozen? ⟨w.heap.size + 1, i, none⟩ = false := by
    intro i
    refine (b3.frozen (p := ⟨w.heap.size + 1, i, none⟩) (by show w.heap.size + 1 < _; omega)).trans ?_
    rw [h2, ← s1]
    exact new_frozen W1 _ _ i
  have hm := SMap.made w
  rw [← h1] at hm
  have hi := IMap.made W2
  rw [s2] at hi
  have hsz : (W2.alloc (.map #[] 0)).heap.size = w.heap.size + 1 + 1 + 1 := by rw [size_alloc1, s2]
  refine ⟨⟨⟨c 0 _ rfl, ⟨0, Nat.zero_le _, rfl, c 1 _ rfl⟩, f 1, by omega⟩, c 2 _ rfl, f 2, c 3 _ rfl, c 4 _ rfl, f 4, ⟨0, by simp, ?_⟩, ⟨[], ⟨rfl, .inl ⟨rfl, rfl⟩⟩, rfl⟩, Nat.lt_succ_self _⟩, ?_, Nat.le_refl _, Nat.lt_succ_self _, ⟨0, fun _ => 0, by simp, hi, fun key => ⟨fun h => by simp [Ent.has] at h, fun _ => rfl⟩⟩, ⟨[], ⟨rfl, .inl ⟨rfl, rfl⟩⟩, rfl⟩, by simp, by simp [Value.ownBlock], fun j h => by simp [Value.ownBlock] at h, fun x t h => by simp at h⟩
  · exact (hm.kept (b2.block w.heap.size (by omega))).kept (b3.block w.heap.size (by omega))
  · exact (b1.trans (b2.mono (by omega))).trans (b3.mono (by omega))

/-- what a call of Parse hands back -/
def ParsePost (w : World) (o : List Ent.Ent × List (Int × List UInt8)) (e : Ending) (w' : World) : Prop :=
  ∃ vo vn, e = .returned (.tuple #[vo, vn]) ∧ Ents (fun j => w.heap.size ≤ j) w' vo o.1 ∧ SliceIn (fun j => w.heap.size ≤ j) 2 RNote w' vn o.2 ∧ Below w.heap.size w w'
/-- what a call of Parse hands back, with the row that it owns -/
def ParseOwn (w : World) (o : List Ent.Ent × List (Int × List UInt8)) (e : Ending) (w' : World) : Prop :=
  ∃ vo vn B, e = .returned (.tuple #[vo, vn]) ∧ w.heap.size ≤ B ∧ (∃ fl, w'.ownsRow B 27 3 vo o.1.length fl ∧ RepRow (REnt (fun j => B ≤ j ∧ vo.ownBlock ≠ some j) w') o.1 fl) ∧ SliceIn (fun j => w.heap.size ≤ j) 2 RNote w' vn o.2 ∧ Below w.heap.size w w'
theorem parse_own {s : List UInt8} {r m q b : Nat} {w : World} {σ : Ent.RS} {out : List Ent.Ent} {W : World} {v vo : Value} (h : PIn s r m q b w σ out W v vo) (o : List Ent.Ent × List (Int × List UInt8)) (ho : o = (out, σ.notes)) :
    ParseOwn w o (.returned (.tuple #[vo, v])) W := by
  subst ho
  have hm := h.rdr.lt
  have hmw := h.mw
  have hrq := h.rq
  obtain ⟨fl, h1, h2⟩ := h.rows
  obtain ⟨fn, h3, h4⟩ := h.rdr.notes
  refine ⟨vo, v, q + 1, rfl, by omega, ⟨fl, h1, h2.imp (fun x vs _ hx => hx.moved (fun j hj _ => ⟨⟨by have := hj.1; omega, hj.2.2⟩, rfl⟩) (Nat.le_refl _))⟩, SliceIn.own h3 h4 RNote.size rfl (fun j hj => by have := (h3.lt j hj).1; omega), h.below⟩
theorem err_ne (l : List UInt8) : Ent.err l ≠ 0 := by unfold Ent.err; split <;> decide

theorem ent_info : (Tryz.prog.info? 27).map (fun i => (i.zero, i.size, i.bytes)) = some (some (.agg #[.string ⟨#[]⟩, .string ⟨#[]⟩, .slice none 0 0]), 3, 56) := by kernel_rfl

set_option maxRecDepth 100000 in
set_option maxHeartbeats 3200000 in
theorem entry_parse_own (s : List UInt8) (w : World) (hs : s.length ≤ 1000000000) :
    Calls Tryz.prog 25 #[.string ⟨s.toArray⟩] w fun e w' => ParseOwn w (Ent.parse s) e w' := by
  have hsm : s.length ≤ maxLen := by unfold maxLen; omega
  have hmm := @run_makeMap Tryz.prog
  obtain ⟨o, ho⟩ : ∃ o, Ent.parse s = o := ⟨_, rfl⟩
  rw [ho]
  unfold Ent.parse at ho
  have Ho := Lib.hid ho.symm; clear ho
  have HP := Lib.hid (parse_start s w 90)
  go_enter Tryz.func25, Tryz.ntmps25
  go_wp2_with fail
  generalize ((w.alloc (.map #[] 0)).alloc (.cells #[.string ⟨s.toArray⟩, .int .i64 0, .string ⟨#[]⟩, .map (some w.heap.size), .slice none 0 0] 90)).alloc (.map #[] 0) = W at HP ⊢
  generalize w.heap.size + 1 + 1 = q at HP ⊢
  generalize w.heap.size + 1 = r at HP ⊢
  generalize w.heap.size = m at HP ⊢
  clear hmm
  go_loopw [6] (fun vo wr => ∃ (σ : Ent.RS) (out : List Ent.Ent) (v : Value) (n : Nat), PIn s r m q 0 w σ out wr v vo ∧ σ.rest.length < n ∧ o = ((Ent.parseN n out σ).1, (Ent.parseN n out σ).2.notes)) (fun _ wr => s.length - placeOf r wr)
  case atStart => exact ⟨_, [], _, _, HP.out, Nat.lt_succ_self _, Ho.out⟩
  case round =>
    clear HP Ho
    obtain ⟨σ, out, v, n, hP, hn, ho⟩ := hrel
    obtain ⟨n, rfl⟩ : ∃ k, n = k + 1 := ⟨n - 1, by omega⟩
    have hA := hP.rdr.at'
    have hlen := hA.len
    have f1 := hA.free
    obtain ⟨k, hk, hd, e1⟩ := hA.place
    have e4 := hP.rdr.ncell
    have hx1 := extract_end s k
    rw [hd] at hx1
    have g3 : (k : Int) ≤ (s.length : Int) := by omega
    have HP := Lib.hid hP; have Hlen := Lib.hid hlen; have Hn := Lib.hid hn
    clear hP hA hlen hn
    unfold Ent.parseN at ho
    rcases index_split 64 σ.rest with ⟨h1, h2⟩ | ⟨l2, h1, h2, h3⟩
    · rw [h1] at ho
      have Ho := Lib.hid ho; have H2 := Lib.hid h2; clear ho h1 h2 hd
      go_wp2_with (go_at_call 40; refine (find_at _ 64 64 rfl _ _ H2.out).mono ?_; rintro e w' ⟨rfl, rfl⟩)
      go_quiet (fail)
      go_wp2_with fail
      go_ret2
      exact parse_own (HP.out.belowW (below_drewN (Below.refl _ _) _)) o Ho.out
    · rw [h1] at ho
      dsimp only at ho
      obtain ⟨t, ht⟩ : ∃ t, σ.rest.takeWhile (fun x => !(x == 64)) = t := ⟨_, rfl⟩
      rw [ht] at h2 h3
      have hlen2 : k + (t.length + 1) ≤ s.length := by
        have h := congrArg List.length hd
        rw [h3] at h
        simp at h; omega
      have hx3 : s.drop (k + (t.length + 1)) = l2 := by
        rw [← List.drop_drop, hd, h3, ← List.drop_drop, List.drop_left]; rfl
      have hl2 : l2.length + 1 ≤ σ.rest.length := by rw [h3]; simp
      have g5 : IntKind.i64.wrap ((t.length : Int) + 1) = (t.length : Int) + 1 := IntWalk.i64_in _ (by omega)
      have g6 : IntKind.i64.wrap ((k : Int) + ((t.length : Int) + 1)) = (k : Int) + ((t.length : Int) + 1) := IntWalk.i64_in _ (by omega)
      have H2 := Lib.hid h2; have Hx3 := Lib.hid hx3; have Hd := Lib.hid hd; have Hl2a := Lib.hid hl2
      clear h1 h2 hd ht h3 hx3 hl2 e4
      go_upto_region 8 with (go_at_call 40; refine (find_at _ 64 64 rfl _ _ H2.out).mono ?_; rintro e w' ⟨rfl, rfl⟩)
      have hA2 := HP.out.rdr.at'.set (k := k + (t.length + 1)) hlen2 ((k : Int) + ((t.length : Int) + 1)) (by omega)
      rw [Hx3.out] at hA2
      have HP1 := Lib.hid (HP.out.moved ((Moved.refl r _).set _) hA2 (b' := 1) Hl2a.out)
      generalize wr.setCell ⟨r, 1, none⟩ (.int .i64 ((k : Int) + ((t.length : Int) + 1))) = w1 at HP1 ⊢
      clear HP hA2 Hx3 Hd f1 e1 hx1 g3 g5 g6 H2 hlen2
      obtain ⟨σ2, hs2⟩ : ∃ σ2, σ2 = σ.at l2 := ⟨_, rfl⟩
      rw [← hs2] at ho
      have hp2 : PIn s r m q 1 w σ2 out w1 v u6 := by rw [hs2]; exact HP1.out
      have hl3 : σ2.rest.length < σ.rest.length := by rw [hs2]; have := Hl2a.out; show l2.length < _; omega
      have HP2 := Lib.hid hp2; have Hl3 := Lib.hid hl3; clear hp2 hs2 hl3 HP1 Hl2a
      have HN3 := Lib.hid (Ent.entry_names σ2 HP2.out.names)
      have Hl2 := Lib.hid (Ent.entry_len σ2)
      obtain ⟨p, hp⟩ : ∃ p, Ent.entry σ2 = p := ⟨_, rfl⟩
      rw [hp] at ho HN3 Hl2
      have Hp := Lib.hid hp; clear hp
      cases hx : p.1 with
      | none =>
        rw [hx] at ho
        dsimp only at ho
        have Ho := Lib.hid ho; have Hx := Lib.hid hx; clear ho hx
        obtain ⟨ec, hec⟩ : ∃ ec, Ent.err p.2.rest = ec := ⟨_, rfl⟩
        have hec0 : ec ≠ 0 := by rw [← hec]; exact err_ne _
        have g7 : (ec != 0) = true := by simp [hec0]
        have Hec := Lib.hid hec; clear hec hec0
        go_upto_region 9 with (go_at_call 41; refine (reader_entry s r m 1 σ2 v _ hs HP2.out.names HP2.out.rdr).mono ?_; rintro e w3 hpost; unfold EntryPost at hpost; rw [Hp.out, Hx.out] at hpost; obtain ⟨vx, v3, rfl, hR, hS, hx⟩ := hpost; dsimp only at hx; subst hx; have HP3 := Lib.hid (HP2.out.next hR hS (Nat.add_le_add_right Hl2.out 1) HN3.out); clear hR hS; dsimp only; rw [Hec.out])
        have HP4 := Lib.hid (HP3.out.belowW (below_new w3 (.cells #[.string ⟨#[]⟩, .string ⟨#[]⟩, .slice none 0 0] 27)))
        generalize w3.alloc (.cells #[.string ⟨#[]⟩, .string ⟨#[]⟩, .slice none 0 0] 27) = w4 at HP4 ⊢
        clear HP3 HP2
        have e5 := HP4.out.rdr.kind
        go_wp2_with (go_at_call 42; refine (reader_note s r m 0 p.2 v3 _ ec p.2.kind hs HP4.out.rdr).mono ?_; rintro e w5 ⟨rfl, v5, hR5, hS5⟩; have HP5 := Lib.hid (HP4.out.next (b' := 0) hR5 hS5 (Nat.le_add_right _ _) HP4.out.names))
        have h2 := Hl2.out; have h3 := Hl3.out; have h4 := Hn.out
        have H2 := Lib.hid h2; have H3 := Lib.hid h3; have H4 := Lib.hid h4; clear h2 h3 h4
        go_roundw
        case rel =>
          refine ⟨_, out, v5, n, HP5.out, ?_, by rw [Hec.out] at Ho; exact Ho.out⟩
          show p.2.rest.length < n
          have := H2.out; have := H3.out; have := H4.out; omega
        case measure =>
          rw [HP5.out.rdr.at'.len, Hlen.out]
          show p.2.rest.length < _
          have := H2.out; have := H3.out; omega
      | some ox =>
        cases ox with
        | none =>
          rw [hx] at ho
          dsimp only at ho
          have Ho := Lib.hid ho; have Hx := Lib.hid hx; clear ho hx
          go_wp2_with (go_at_call 41; refine (reader_entry s r m 1 σ2 v _ hs HP2.out.names HP2.out.rdr).mono ?_; rintro e w3 hpost; unfold EntryPost at hpost; rw [Hp.out, Hx.out] at hpost; obtain ⟨vx, v3, rfl, hR, hS, hx⟩ := hpost; dsimp only at hx; subst hx; have HP3 := Lib.hid (HP2.out.next hR hS (Nat.add_le_add_right Hl2.out 1) HN3.out); clear hR hS; dsimp only)
          have he := (HP3.out.belowW (below_new w3 (.cells #[.string ⟨#[]⟩, .string ⟨#[]⟩, .slice none 0 0] 27))).mono (Nat.zero_le 1)
          have h2 := Hl2.out; have h3 := Hl3.out; have h4 := Hn.out
          refine ⟨⟨p.2, out, v3, n, he, by omega, Ho.out⟩, ?_⟩
          rw [he.rdr.at'.len, Hlen.out]
          omega
        | some x =>
          rw [hx] at ho
          dsimp only at ho
          have hkl : x.key.length ≤ maxLen := by
            have h1 := Ent.entry_keylen σ2 x (by rw [Hp.out]; exact hx)
            obtain ⟨c, h2, _⟩ := HP2.out.rdr.names
            omega
          have hq1 : q < w1.heap.size := by obtain ⟨c, f, _, h, _⟩ := HP2.out.seen; exact h.lt
          have hu6 : ∀ j, u6.ownBlock = some j → j < w1.heap.size := fun j hj => by obtain ⟨fl, h, _⟩ := HP2.out.rows; exact (h.lt j hj).2
          have Hx := Lib.hid hx; have Hkl := Lib.hid hkl; have Hq1 := Lib.hid hq1; have Hu6 := Lib.hid hu6; clear hx hkl hq1 hu6
          go_upto_region 9 with (go_at_call 41; refine (reader_entry s r m 1 σ2 v _ hs HP2.out.names HP2.out.rdr).mono ?_; rintro e w3 hpost; unfold EntryPost at hpost; rw [Hp.out, Hx.out] at hpost; obtain ⟨vx, v3, rfl, hR, hS, hx⟩ := hpost; dsimp only at hx; have HP3 := Lib.hid (HP2.out.next hR hS (Nat.add_le_add_right Hl2.out 1) HN3.out); clear hR hS; obtain ⟨vs, rfl, hre⟩ := hx; have Hre := Lib.hid hre; obtain ⟨vf, rfl, hF⟩ := hre; obtain ⟨pf, cf, rfl, hF2⟩ := hF; clear hF2; dsimp only)
          have he6 : ∀ (i : Nat) (u : Value), #[Value.string ⟨x.kind.toArray⟩, .string ⟨x.key.toArray⟩, .slice pf x.fields.length cf][i]? = some u → (w3.alloc (.cells #[.string ⟨x.kind.toArray⟩, .string ⟨x.key.toArray⟩, .slice pf x.fields.length cf] 27)).cell? ⟨w3.heap.size, i, none⟩ = some u := by
            intro i u hu
            rw [cell_of_row _ _ _ _ _ _ (heap_alloc_new w3 _)]
            exact hu
          have HP4 := Lib.hid (HP3.out.belowW (below_new w3 (.cells #[.string ⟨x.kind.toArray⟩, .string ⟨x.key.toArray⟩, .slice pf x.fields.length cf] 27)))
          have hre4 : REnt (OutS q v3 u6) (w3.alloc (.cells #[.string ⟨x.kind.toArray⟩, .string ⟨x.key.toArray⟩, .slice pf x.fields.length cf] 27)) x [.string ⟨x.kind.toArray⟩, .string ⟨x.key.toArray⟩, .slice pf x.fields.length cf] := by
            refine Hre.out.moved (fun j hj hlt => ⟨⟨by have := Hq1.out; have := hj.1; omega, hj.2, fun e => by have := Hu6.out j e; have := hj.1; omega⟩, (below_new w3 _).block j hlt⟩) (below_new w3 _).size
          have Hre4 := Lib.hid hre4
          have hg4 : w3.heap.size < (w3.alloc (.cells #[.string ⟨x.kind.toArray⟩, .string ⟨x.key.toArray⟩, .slice pf x.fields.length cf] 27)).heap.size := lt_alloc _ _
          have hg3 : q < w3.heap.size := by obtain ⟨c, f, _, h, _⟩ := HP3.out.seen; exact h.lt
          generalize w3.alloc (.cells #[.string ⟨x.kind.toArray⟩, .string ⟨x.key.toArray⟩, .slice pf x.fields.length cf] 27) = w4 at HP4 he6 Hre4 hg4 ⊢
          have e60 := he6 0 _ rfl; have e61 := he6 1 _ rfl; have e62 := he6 2 _ rfl
          clear HP3 HP2 Hre hre4 he6
          obtain ⟨cnt, f, hcnt, hm4, hf⟩ := HP4.out.seen
          have Hm4 := Lib.hid hm4; have Hf := Lib.hid hf; have Hcnt := Lib.hid hcnt; clear hm4 hf hcnt
          cases hh : Ent.has out x.key
          · rw [hh, if_neg (by simp)] at ho
            have Ho := Lib.hid ho; have Hh := Lib.hid hh; have hrun := Hm4.out.run x.key Hkl.out 0 ((Hf.out x.key).2 hh); have Hf0 := Lib.hid ((Hf.out x.key).2 hh); clear ho hh
            go_upto_region 14 with fail
            have hcm : cnt < maxLen := by have := Hcnt.out; unfold maxLen; omega
            go_upto_region 15 with (at_mapUpdate; go_loud (refine wpList_imap_store rfl (.tmp 70) (.tmp 72) (.tmp 74) rfl q cnt f rfl Hm4.out x.key rfl Hkl.out hcm 1 rfl (by decide) ?_); intro w6 hm6 hg6; have Hm6 := Lib.hid hm6; have Hg6 := Lib.hid hg6; clear hm6 hg6)
            have e60 := (grown_cell Hg6.out hg4 (by intro e; injection e with e; omega) 0).trans e60
            have e61 := (grown_cell Hg6.out hg4 (by intro e; injection e with e; omega) 1).trans e61
            have e62 := (grown_cell Hg6.out hg4 (by intro e; injection e with e; omega) 2).trans e62
            obtain ⟨fl, hown, hrep⟩ := HP4.out.rows
            have hown6 : w6.ownsRow (q + 1) 27 3 u6 out.length fl := hown.kept Hg6.out (by
              cases hv : u6.ownBlock with
              | none => exact .inl rfl
              | some j => exact .inr (fun e => by injection e with e; have := (hown.lt j hv).1; omega))
            have Hown6 := Lib.hid hown6; have Hrep := Lib.hid hrep; clear hown hown6 hrep
            obtain ⟨i0, hi, hz0, hz1, hz2⟩ := info_parts ent_info
            have Hi := Lib.hid hi; have Hz0 := Lib.hid hz0; have Hz1 := Lib.hid hz1; have Hz2 := Lib.hid hz2
            have hcnt2 : out.length ≤ 1000000000 := by have := HP4.out.cnt; omega
            have hbase : q + 1 ≤ w6.heap.size := by have := Hg6.out.size; omega
            clear hi hz0 hz1 hz2 hrun
            go_wp2_with (at_builtin; go_loud (refine wpList_append1 rfl (.tmp 75) (.tmp 77) 22 rfl (q + 1) 27 i0 (.agg #[.string ⟨#[]⟩, .string ⟨#[]⟩, .slice none 0 0]) 3 56 Tryz.underlying22 Hi.out Hz0.out Hz1.out Hz2.out (by rfl) (by decide) _ _ _ Hown6.out rfl [.string ⟨x.kind.toArray⟩, .string ⟨x.key.toArray⟩, .slice pf x.fields.length cf] rfl rfl rfl (by simp [Value.oneCell']) (by unfold maxLen; omega) (by omega) hbase ?_); intro v7 w7 own7 g7 at7; have HP7 := Lib.hid (PIn.kept (b := 0) HP4.out Hh.out Hcnt.out Hm6.out Hf.out Hg6.out Hrep.out Hre4.out own7 g7 at7); clear own7 g7 at7)
            have h2 := Hl2.out; have h3 := Hl3.out; have h4 := Hn.out
            refine ⟨⟨p.2, out ++ [x], v3, n, HP7.out, by omega, Ho.out⟩, ?_⟩
            rw [HP7.out.rdr.at'.len, Hlen.out]
            omega
          · rw [hh, if_pos rfl] at ho
            have Ho := Lib.hid ho; have hrun := Hm4.out.run x.key Hkl.out 1 ((Hf.out x.key).1 hh); clear ho hh
            go_wp2_with (first
              | (go_at_call 42; refine (reader_note s r m 0 p.2 v3 _ 12 x.key hs HP4.out.rdr).mono ?_; rintro e w5 ⟨rfl, v5, hR5, hS5⟩; have HP5 := Lib.hid (HP4.out.next (b' := 0) hR5 hS5 (Nat.le_add_right _ _) HP4.out.names)))
            have h2 := Hl2.out; have h3 := Hl3.out; have h4 := Hn.out
            refine ⟨⟨_, out, v5, n, HP5.out, ?_, Ho.out⟩, ?_⟩
            · show p.2.rest.length < n; omega
            · rw [HP5.out.rdr.at'.len, Hlen.out]
              show p.2.rest.length < _; omega
theorem entry_parse (s : List UInt8) (w : World) (hs : s.length ≤ 1000000000) :
    Calls Tryz.prog 25 #[.string ⟨s.toArray⟩] w fun e w' => ParsePost w (Ent.parse s) e w' := by
  refine (entry_parse_own s w hs).mono ?_
  rintro e w' ⟨vo, vn, B, rfl, hB, ⟨fl, h1, h2⟩, hn, hb⟩
  refine ⟨vo, vn, rfl, ?_, hn, hb⟩
  exact SliceIn.own h1 (h2.imp (fun x vs _ hx => hx.moved (S' := fun j => w.heap.size ≤ j) (fun j hj _ => ⟨by have := hj.1; omega, rfl⟩) (Nat.le_refl _))) (fun x vs hx => REnt.size x vs hx) rfl (fun j hj => by have := (h1.lt j hj).1; omega)
end Go.Proofs.YtanbcokkfbidbaaGreatDoor
