/- The walks of package entry's reader: a part of a value. -/
import Derived.Test.YtddgdfcgjjdlcaaDoorParW7
import Derived.Shelf.Strings.SlTrimAscii
namespace Go.Proofs.YtddgdfcgjjdlcaaDoor
open Go.RowKit

def digs : List UInt8 := [48, 49, 50, 51, 52, 53, 54, 55, 56, 57]
theorem digs_digit (c : UInt8) : digs.contains c = Ent.digit c := by
  have := byte_all (fun c => digs.contains c == Ent.digit c) (by decide +kernel) c
  simpa using this
theorem mem_takeWhile {α : Type} (p : α → Bool) : ∀ (l : List α) (x : α), x ∈ l.takeWhile p → p x = true
  | [], _, h => by simp at h
  | y :: l, x, h => by
    rw [List.takeWhile_cons] at h
    split at h
    · rcases List.mem_cons.1 h with rfl | h
      · assumption
      · exact mem_takeWhile p l x h
    · simp at h
theorem dropWhile_nil {α : Type} (p : α → Bool) : ∀ l : List α, l.dropWhile p = [] ↔ ∀ x ∈ l, p x = true
  | [] => by simp
  | y :: l => by
    rw [List.dropWhile_cons]
    cases hy : p y
    · simp [hy]
    · simpa [hy] using dropWhile_nil p l
theorem trim_nil (l cs : List UInt8) : (Lib.trimS l cs = []) ↔ l.all cs.contains = true := by
  unfold Lib.trimS Lib.trimLeftS Lib.trimRightS
  rw [dropWhile_nil, List.all_eq_true]
  have h1 := List.takeWhile_append_dropWhile (p := fun x => cs.contains x) (l := l.reverse)
  constructor
  · intro h x hx
    have h2 : x ∈ l.reverse := List.mem_reverse.2 hx
    rw [← h1] at h2
    rcases List.mem_append.1 h2 with h2 | h2
    · exact mem_takeWhile _ _ _ h2
    · exact h x (List.mem_reverse.2 h2)
  · intro h x hx
    have h2 : x ∈ l.reverse := by rw [← h1]; exact List.mem_append_right _ (List.mem_reverse.1 hx)
    exact h x (List.mem_reverse.1 h2)
theorem trim_digits (l : List UInt8) (w : World) (hl : l.length ≤ 1000000000) :
    Calls Tryd.prog 52 #[.string ⟨l.toArray⟩, .string ⟨#[48, 49, 50, 51, 52, 53, 54, 55, 56, 57]⟩] w fun e w' => e = .returned (.string ⟨(Lib.trimS l digs).toArray⟩) ∧ Below w.heap.size w w' :=
  Any.strings_Trim_laid Tryd.lays160 (by kernel_rfl) ⟨l.toArray⟩ ⟨digs.toArray⟩ w (by rw [size_mk]; omega) (by decide) (ascii_of_all (by decide))
theorem reader_isc (s : List UInt8) (r : Nat) (l : List UInt8) (c : UInt8) (n : Int) (hn : (c.toNat : Int) = n) (w : World) (hs : s.length ≤ maxLen) (h0 : c.toNat ≠ 0) (hA : At s r w l) :
    Calls Tryd.prog 38 #[.pointer (some ⟨r, 0, none⟩), .int .u8 n] w fun e w' => e = .returned (.bool (Ent.isB c l)) ∧ At s r w' (Ent.isL c l) ∧ Moved r w w' := by
  subst hn; exact reader_is s r l c w hs h0 hA
theorem reader_mustc (s : List UInt8) (r : Nat) (l : List UInt8) (c : UInt8) (n : Int) (hn : (c.toNat : Int) = n) (w : World) (hs : s.length ≤ maxLen) (h0 : c.toNat ≠ 0) (hA : At s r w l) :
    Calls Tryd.prog 36 #[.pointer (some ⟨r, 0, none⟩), .int .u8 n] w fun e w' => e = (if Ent.isB c l then .returned (.tuple #[]) else wrongP (Ent.isL c l)) ∧ At s r w' (Ent.isL c l) ∧ Moved r w w' := by
  subst hn; exact reader_must s r l c w hs h0 hA

/-- the reader behind a call: what it hands back, and how it stands -/
abbrev After (s : List UInt8) (r m b : Nat) (v : Value) (w : World) (o : Option (List UInt8)) (σ : Ent.RS) (e : Ending) (w' : World) : Prop :=
  said (o, σ.rest) e ∧ ∃ v', Rdr s r m b w' σ v' ∧ Step r m v v' w w'

theorem Rdr.away {s : List UInt8} {r m b : Nat} {w : World} {σ : Ent.RS} {v : Value} (h : Rdr s r m b w σ v) {g : Nat} (hg : w.heap.size ≤ g) : g ≠ r ∧ g ≠ m ∧ v.ownBlock ≠ some g := by
  have h1 := h.at'.lt
  obtain ⟨n, _, h2⟩ := h.names
  have h3 := h2.lt
  obtain ⟨fl, h4, _⟩ := h.notes
  refine ⟨by omega, by omega, fun e => ?_⟩
  have := (h4.lt g e).2
  omega
/-- what was made behind the reader's back stays -/
theorem Step.kept {s : List UInt8} {r m b : Nat} {w W w' : World} {σ : Ent.RS} {v v' : Value} (h : Rdr s r m b w σ v) (hS : Step r m v v' W w') {g : Nat} (hg : w.heap.size ≤ g) (hW : g < W.heap.size) (i : Nat) : w'.cell? ⟨g, i, none⟩ = W.cell? ⟨g, i, none⟩ := by
  obtain ⟨h1, h2, h3⟩ := h.away hg
  exact World.cell?_of_block (hS.block g hW h1 h2 h3)
theorem new_cell (w : World) (u : Value) (t : TypeId) : (w.alloc (.cells #[u] t)).cell? ⟨w.heap.size, 0, none⟩ = some u := by
  rw [cell_of_row _ _ _ _ _ _ (heap_alloc_new w _)]
  rfl
theorem below_new (w : World) (o : Obj) : Below w.heap.size w (w.alloc o) := (Below.refl w.heap.size w).alloc (Nat.le_refl _) o

set_option maxRecDepth 100000 in
set_option maxHeartbeats 1600000 in
theorem reader_part (s : List UInt8) (r m b : Nat) (σ : Ent.RS) (v : Value) (w : World) (hs : s.length ≤ 1000000000) (hR : Rdr s r m b w σ v) :
    Calls Tryd.prog 46 #[.pointer (some ⟨r, 0, none⟩)] w fun e w' => After s r m b v w (Ent.part σ).1 (Ent.part σ).2 e w' := by
  have hsm : s.length ≤ maxLen := by unfold maxLen; omega
  have H34 := Lib.hid (reader_isc s r σ.rest 34 34 rfl w hsm (by decide) hR.at')
  obtain ⟨o, ho⟩ : ∃ o, Ent.part σ = o := ⟨_, rfl⟩
  rw [ho]
  unfold Ent.part at ho
  have HR := Lib.hid hR; clear hR
  cases h34 : Ent.isB 34 σ.rest
  · rw [h34] at ho H34
    rw [if_neg (by simp)] at ho
    have hl34 : Ent.isL 34 σ.rest = Ent.bl σ.rest := Ent.isL_no _ _ h34
    rw [hl34] at H34
    have h123 : ∀ w', At s r w' (Ent.bl σ.rest) → Calls Tryd.prog 38 #[.pointer (some ⟨r, 0, none⟩), .int .u8 123] w' fun e w'' => e = .returned (.bool (Ent.isB 123 σ.rest)) ∧ At s r w'' (Ent.isL 123 σ.rest) ∧ Moved r w' w'' := by
      intro w' hA
      have h := reader_isc s r _ 123 123 rfl w' hsm (by decide) hA
      rw [Ent.isB_bl, Ent.isL_bl] at h
      exact h
    clear hl34 h34
    cases hb : Ent.isB 123 σ.rest
    · rw [hb] at ho h123
      rw [if_neg (by simp)] at ho
      rw [Ent.isL_no _ _ hb] at h123
      have H123 := Lib.hid h123; clear h123
      have hmk : ∀ w', At s r w' (Ent.bl σ.rest) → Calls Tryd.prog 35 #[.pointer (some ⟨r, 0, none⟩)] w' fun e w'' => said (Ent.mark σ.rest) e ∧ At s r w'' (Ent.mark σ.rest).2 ∧ Moved r w' w'' := by
        intro w' hA
        have h := reader_mark s r _ w' hsm hA
        rw [Ent.mark_bl] at h
        exact h
      have Hmk := Lib.hid hmk; clear hmk hb
      cases hq : (Ent.mark σ.rest).1 with
      | none =>
        have Hl := Lib.hid (Ent.mark_len σ.rest)
        rw [hq] at ho
        dsimp only at ho
        have Ho := Lib.hid ho.symm; have Hq := Lib.hid hq; clear hq ho
        go_enter Tryd.func46, Tryd.ntmps46
        go_wp2_with (first
          | (go_at_call 38; with_reducible refine H34.out.mono ?_; rintro e w2 ⟨rfl, hA2, hM2⟩)
          | (go_at_call 38; with_reducible refine (H123.out _ hA2).mono ?_; rintro e w3 ⟨rfl, hA3, hM3⟩)
          | (go_at_call 35; refine (Hmk.out _ hA3).mono ?_; rintro e w4 ⟨he4, hA4, hM4⟩; simp only [said, Hq.out] at he4; subst he4))
        refine ⟨rfl, ?_⟩
        rw [Ho.out]
        exact ⟨rfl, v, HR.out.moved ((hM2.trans hM3).trans hM4) hA4 (by have := Hl.out; omega), ((hM2.trans hM3).trans hM4).step m v⟩
      | some t =>
        obtain ⟨hne, hlt⟩ := Ent.mark_lt σ.rest t hq
        rw [hq] at ho
        dsimp only at ho
        have htl0 : t.length ≤ 1000000000 := by
          have h1 := congrArg List.length (List.takeWhile_append_dropWhile (p := Ent.sign) (l := Ent.bl σ.rest))
          have h2 : t = (Ent.bl σ.rest).takeWhile Ent.sign := by
            unfold Ent.mark at hq
            dsimp only at hq
            split at hq
            · cases hq
            · cases hq; rfl
          rw [List.length_append, ← h2] at h1
          have h3 := Ent.bl_len σ.rest
          obtain ⟨n, h4, _⟩ := HR.out.names
          omega
        have htl : t.length ≤ maxLen := by unfold maxLen; omega
        have hbud : (Ent.mark σ.rest).2.length + (b + 1) ≤ σ.rest.length + b := by omega
        obtain ⟨u, hu⟩ : ∃ u, Ent.small t = u := ⟨_, rfl⟩
        have hul : u.length ≤ 1000000000 := by rw [← hu]; unfold Ent.small; rw [List.length_map]; exact htl0
        rw [hu] at ho
        obtain ⟨z, hz⟩ : ∃ z, Lib.trimS u digs = z := ⟨_, rfl⟩
        have hzd : z = [] ↔ u.all Ent.digit = true := by
          rw [← hz, trim_nil]
          have : u.all digs.contains = u.all Ent.digit := by congr 1; funext c; exact digs_digit c
          rw [this]
        have Hq := Lib.hid hq; have Hu := Lib.hid hu; have Hz := Lib.hid hz; clear hq hu hz
        cases hdg : u.all Ent.digit
        · have hz1 : z.isEmpty = false := by
            cases hze : z with
            | nil => rw [hzd.1 hze] at hdg; cases hdg
            | cons c l => rfl
          rw [hdg, if_neg (by simp)] at ho
          clear hzd hdg
          cases hnm : σ.names u with
          | none =>
            rw [hnm] at ho
            dsimp only at ho
            have Ho := Lib.hid ho.symm; have Hnm := Lib.hid hnm; clear ho hnm
            go_enter Tryd.func46, Tryd.ntmps46
            go_wp2_with (first
          | (go_at_call 38; with_reducible refine H34.out.mono ?_; rintro e w2 ⟨rfl, hA2, hM2⟩)
          | (go_at_call 38; with_reducible refine (H123.out _ hA2).mono ?_; rintro e w3 ⟨rfl, hA3, hM3⟩)
          | (go_at_call 35; refine (Hmk.out _ hA3).mono ?_; rintro e w4 ⟨he4, hA4, hM4⟩; simp only [said, Hq.out] at he4; subst he4)
          | (go_at_call 21; refine (entry_small t _ htl).mono ?_; rintro e w5 ⟨rfl, hb5⟩; have HR5 := Lib.hid ((HR.out.moved ((hM2.trans hM3).trans hM4) hA4 hbud).below hb5); have HS5 := Lib.hid ((((hM2.trans hM3).trans hM4).step m v).trans (Step.below hb5 r m v)); clear hA2 hM2 hA3 hM3 hA4 hM4 hb5; rw [Hu.out])
          | (go_at_call 52; refine (trim_digits u _ hul).mono ?_; rintro e w6 ⟨rfl, hb6⟩; have HR6 := Lib.hid (HR5.out.below hb6); have HS6 := Lib.hid (HS5.out.trans (Step.below hb6 r m v)); have e3 := HR6.out.mcell; obtain ⟨n6, hn6, hm6⟩ := HR6.out.names; have HM6 := Lib.hid hm6; clear HR5 HS5 hb6 hn6 hm6; rw [Hz.out])
              | (at_lookup; go_loud (refine wpList_smap_look rfl (.tmp 27) (.tmp 28) rfl m _ _ rfl HM6.out u rfl (by unfold maxLen; omega) none Hnm.out ?_))
              | (go_at_call 29; refine (reader_note s r m b _ v _ 4 u hs (HR6.out.below (below_new w6 _))).mono ?_; rintro e w7 ⟨rfl, v7, hR7, hS7⟩; have ex := (Step.kept HR6.out hS7 (Nat.le_refl _) (lt_alloc w6 _) 0).trans (new_cell w6 _ _)))
            go_ret
            rw [Ho.out]
            exact ⟨rfl, v7, hR7, HS6.out.trans ((Step.below (below_new w6 _) r m v).trans hS7)⟩
          | some y =>
            rw [hnm] at ho
            dsimp only at ho
            have Ho := Lib.hid ho.symm; have Hnm := Lib.hid hnm; clear ho hnm
            go_enter Tryd.func46, Tryd.ntmps46
            go_wp2_with (first
          | (go_at_call 38; with_reducible refine H34.out.mono ?_; rintro e w2 ⟨rfl, hA2, hM2⟩)
          | (go_at_call 38; with_reducible refine (H123.out _ hA2).mono ?_; rintro e w3 ⟨rfl, hA3, hM3⟩)
          | (go_at_call 35; refine (Hmk.out _ hA3).mono ?_; rintro e w4 ⟨he4, hA4, hM4⟩; simp only [said, Hq.out] at he4; subst he4)
          | (go_at_call 21; refine (entry_small t _ htl).mono ?_; rintro e w5 ⟨rfl, hb5⟩; have HR5 := Lib.hid ((HR.out.moved ((hM2.trans hM3).trans hM4) hA4 hbud).below hb5); have HS5 := Lib.hid ((((hM2.trans hM3).trans hM4).step m v).trans (Step.below hb5 r m v)); clear hA2 hM2 hA3 hM3 hA4 hM4 hb5; rw [Hu.out])
          | (go_at_call 52; refine (trim_digits u _ hul).mono ?_; rintro e w6 ⟨rfl, hb6⟩; have HR6 := Lib.hid (HR5.out.below hb6); have HS6 := Lib.hid (HS5.out.trans (Step.below hb6 r m v)); have e3 := HR6.out.mcell; obtain ⟨n6, hn6, hm6⟩ := HR6.out.names; have HM6 := Lib.hid hm6; clear HR5 HS5 hb6 hn6 hm6; rw [Hz.out])
              | (at_lookup; go_loud (refine wpList_smap_look rfl (.tmp 27) (.tmp 28) rfl m _ _ rfl HM6.out u rfl (by unfold maxLen; omega) (some y) Hnm.out ?_)))
            go_ret
            rw [Ho.out]
            exact ⟨rfl, v, (HR6.out.mono (by omega)).below (below_new w6 _), HS6.out.trans (Step.below (below_new w6 _) r m v)⟩
        · have hz1 : z = [] := hzd.2 hdg
          subst hz1
          rw [hdg, if_pos rfl] at ho
          have Ho := Lib.hid ho.symm
          clear hzd hdg ho
          go_enter Tryd.func46, Tryd.ntmps46
          go_wp2_with (first
          | (go_at_call 38; with_reducible refine H34.out.mono ?_; rintro e w2 ⟨rfl, hA2, hM2⟩)
          | (go_at_call 38; with_reducible refine (H123.out _ hA2).mono ?_; rintro e w3 ⟨rfl, hA3, hM3⟩)
          | (go_at_call 35; refine (Hmk.out _ hA3).mono ?_; rintro e w4 ⟨he4, hA4, hM4⟩; simp only [said, Hq.out] at he4; subst he4)
          | (go_at_call 21; refine (entry_small t _ htl).mono ?_; rintro e w5 ⟨rfl, hb5⟩; have HR5 := Lib.hid ((HR.out.moved ((hM2.trans hM3).trans hM4) hA4 hbud).below hb5); have HS5 := Lib.hid ((((hM2.trans hM3).trans hM4).step m v).trans (Step.below hb5 r m v)); clear hA2 hM2 hA3 hM3 hA4 hM4 hb5; rw [Hu.out])
          | (go_at_call 52; refine (trim_digits u _ hul).mono ?_; rintro e w6 ⟨rfl, hb6⟩; have HR6 := Lib.hid (HR5.out.below hb6); have HS6 := Lib.hid (HS5.out.trans (Step.below hb6 r m v)); have e3 := HR6.out.mcell; obtain ⟨n6, hn6, hm6⟩ := HR6.out.names; have HM6 := Lib.hid hm6; clear HR5 HS5 hb6 hn6 hm6; rw [Hz.out]))
          go_ret
          rw [Ho.out]
          exact ⟨rfl, v, HR6.out.mono (by omega), HS6.out⟩
    · rw [hb] at ho h123
      rw [if_pos rfl] at ho
      have Ho := Lib.hid ho.symm; have Hb := Lib.hid hb; have H123 := Lib.hid h123; clear ho hb h123
      have Hl1 := Lib.hid (Ent.isL_lt 123 σ.rest Hb.out)
      have Hl2 := Lib.hid (Ent.brace_len (Ent.isL 123 σ.rest) 1 [])
      cases hq : (Ent.braced (Ent.isL 123 σ.rest)).1 with
      | none =>
        have Hq := Lib.hid hq; clear hq
        go_enter Tryd.func46, Tryd.ntmps46
        go_wp2_with (first
          | (go_at_call 38; with_reducible refine H34.out.mono ?_; rintro e w2 ⟨rfl, hA2, hM2⟩)
          | (go_at_call 38; with_reducible refine (H123.out _ hA2).mono ?_; rintro e w3 ⟨rfl, hA3, hM3⟩)
          | (go_at_call 51; refine (reader_braced _ _ _ _ hs hA3).mono ?_; rintro e w4 ⟨he4, hA4, hM4⟩; simp only [said, Hq.out] at he4; subst he4))
        refine ⟨rfl, ?_⟩
        rw [Ho.out, Hq.out]
        exact ⟨rfl, v, HR.out.moved ((hM2.trans hM3).trans hM4) hA4 (by have := Hl1.out; have := Hl2.out; unfold Ent.braced; omega), ((hM2.trans hM3).trans hM4).step m v⟩
      | some t =>
        have Hq := Lib.hid hq; clear hq
        go_enter Tryd.func46, Tryd.ntmps46
        go_wp2_with (first
          | (go_at_call 38; with_reducible refine H34.out.mono ?_; rintro e w2 ⟨rfl, hA2, hM2⟩)
          | (go_at_call 38; with_reducible refine (H123.out _ hA2).mono ?_; rintro e w3 ⟨rfl, hA3, hM3⟩)
          | (go_at_call 51; refine (reader_braced _ _ _ _ hs hA3).mono ?_; rintro e w4 ⟨he4, hA4, hM4⟩; simp only [said, Hq.out] at he4; subst he4))
        go_ret
        rw [Ho.out, Hq.out]
        exact ⟨rfl, v, HR.out.moved ((hM2.trans hM3).trans hM4) hA4 (by have := Hl1.out; have := Hl2.out; unfold Ent.braced; omega), ((hM2.trans hM3).trans hM4).step m v⟩
  · rw [h34] at ho H34
    rw [if_pos rfl] at ho
    have Ho := Lib.hid ho.symm; have Hb34 := Lib.hid h34; clear ho h34
    have hl1 := Ent.isL_lt 34 σ.rest Hb34.out
    have hl2 := Ent.quoted_len (Ent.isL 34 σ.rest)
    have Hl1 := Lib.hid hl1; have Hl2 := Lib.hid hl2; clear hl1 hl2
    cases hq : (Ent.quoted (Ent.isL 34 σ.rest)).1 with
    | none =>
      have Hq := Lib.hid hq; clear hq
      go_enter Tryd.func46, Tryd.ntmps46
      go_wp2_with (first
        | (go_at_call 38; refine H34.out.mono ?_; rintro e w2 ⟨rfl, hA2, hM2⟩)
        | (go_at_call 50; refine (reader_quoted _ _ _ _ hsm hA2).mono ?_; rintro e w3 ⟨he3, hA3, hM3⟩; simp only [said, Hq.out] at he3; subst he3))
      refine ⟨rfl, ?_⟩
      rw [Ho.out, Hq.out]
      exact ⟨rfl, v, HR.out.moved (hM2.trans hM3) hA3 (by have := Hl1.out; have := Hl2.out; omega), (hM2.trans hM3).step m v⟩
    | some t =>
      have Hq := Lib.hid hq; clear hq
      go_enter Tryd.func46, Tryd.ntmps46
      go_wp2_with (first
        | (go_at_call 38; refine H34.out.mono ?_; rintro e w2 ⟨rfl, hA2, hM2⟩)
        | (go_at_call 50; refine (reader_quoted _ _ _ _ hsm hA2).mono ?_; rintro e w3 ⟨he3, hA3, hM3⟩; simp only [said, Hq.out] at he3; subst he3))
      go_ret
      rw [Ho.out, Hq.out]
      exact ⟨rfl, v, HR.out.moved (hM2.trans hM3) hA3 (by have := Hl1.out; have := Hl2.out; omega), (hM2.trans hM3).step m v⟩
end Go.Proofs.YtddgdfcgjjdlcaaDoor
