/- The walk of stetlaw15.fixed. -/
import Derived.Test.YtddgdfcgjjdlcaaDoorRefsW
import Derived.Test.YtddgdfcgjjdlcaaDoorShowW
namespace Go.Proofs.YtddgdfcgjjdlcaaDoor
open Go.RowKit

theorem Ents.wide {S : Nat → Prop} {w : World} {v : Value} {l : List Ent.Ent} (h : Ents S w v l) : Ents (fun _ => True) w v l := Ents.kept h (fun _ _ => trivial) (Nat.le_refl _) (fun _ _ _ => rfl)
theorem SliceIn.wide {α : Type} {S : Nat → Prop} {size : Nat} {R : α → List Value → Prop} {w : World} {v : Value} {l : List α} (h : SliceIn S size R w v l) : SliceIn (fun _ => True) size R w v l := h.kept (fun _ _ => trivial) (Nat.le_refl _) (fun _ _ _ => rfl) (fun _ _ _ h => h)
theorem SliceIn.belowR {α : Type} {S : Nat → Prop} {size : Nat} {R : α → List Value → Prop} {w w' : World} {v : Value} {l : List α} (h : SliceIn S size R w v l) (hb : Below w.heap.size w w') : SliceIn S size R w' v l := h.below hb (fun _ _ _ h => h)
theorem Outs.ents {B : Nat} {t : TypeId} {W : World} {vo : Value} {out : List Ent.Ent} (h : Outs B t W vo out) : Ents (fun _ => True) W vo out := by
  obtain ⟨fl, h1, h2⟩ := h
  exact SliceIn.own h1 (h2.imp (fun x vs _ hx => hx.kept (S' := fun _ => True) (fun _ _ => trivial) (Nat.le_refl _) (fun _ _ _ => rfl))) (fun x vs hx => REnt.size x vs hx) rfl (fun _ _ => trivial)
/-- fields as they are built -/
def fcells (fs : List Ent.Fld) : List Value := fs.flatMap fun f => [.string ⟨f.name.toArray⟩, .string ⟨f.text.toArray⟩]
theorem rep_fcells : ∀ fs : List Ent.Fld, RepRow RFld fs (fcells fs)
  | [] => rfl
  | f :: fs => ⟨_, _, rfl, rfl, rep_fcells fs⟩
theorem fcells_length : ∀ fs : List Ent.Fld, (fcells fs).length = fs.length * 2
  | [] => rfl
  | f :: fs => by have := fcells_length fs; simp only [fcells, List.flatMap_cons, List.length_append, List.length_cons, List.length_nil] at this ⊢; omega
theorem built_flds (w : World) (t : TypeId) (fs : List Ent.Fld) (h : fs.length ≤ maxLen) : SliceIn (fun _ => True) 2 RFld (w.alloc (.cells (fcells fs).toArray t)) (.slice (some ⟨w.heap.size, 0, none⟩) fs.length fs.length) fs :=
  SliceIn.own (own_built w w.heap.size t 2 fs.length (fcells fs) (Nat.le_refl _) (fcells_length fs) h) (rep_fcells fs) RFld.size rfl (fun _ _ => trivial)
/-- entries as they are built -/
def ecells (l : List (Ent.Ent × Value)) : List Value := l.flatMap fun p => [.string ⟨p.1.kind.toArray⟩, .string ⟨p.1.key.toArray⟩, p.2]
theorem rep_ecells (w : World) : ∀ l : List (Ent.Ent × Value), (∀ p ∈ l, SliceIn (fun _ => True) 2 RFld w p.2 p.1.fields) → RepRow (REnt (fun _ => True) w) (l.map (·.1)) (ecells l)
  | [], _ => rfl
  | p :: l, h => ⟨_, _, rfl, ⟨p.2, rfl, h p (by simp)⟩, rep_ecells w l (fun q hq => h q (by simp [hq]))⟩
theorem ecells_length : ∀ l : List (Ent.Ent × Value), (ecells l).length = l.length * 3
  | [] => rfl
  | f :: fs => by have := ecells_length fs; simp only [ecells, List.flatMap_cons, List.length_append, List.length_cons, List.length_nil] at this ⊢; omega
theorem built_ents (w : World) (t : TypeId) (l : List (Ent.Ent × Value)) (h : l.length ≤ maxLen) (hf : ∀ p ∈ l, SliceIn (fun _ => True) 2 RFld w p.2 p.1.fields) :
    Ents (fun _ => True) (w.alloc (.cells (ecells l).toArray t)) (.slice (some ⟨w.heap.size, 0, none⟩) l.length l.length) (l.map (·.1)) :=
  SliceIn.own (own_built w w.heap.size t 3 l.length (ecells l) (Nat.le_refl _) (ecells_length l) h) (rep_ecells _ l (fun p hp => (hf p hp).belowR (below_new w _))) (fun x vs hx => REnt.size x vs hx) (by simp) (fun _ _ => trivial)
def ncells (ns : List (Int × List UInt8)) : List Value := ns.flatMap fun p => [.int .i64 p.1, .string ⟨p.2.toArray⟩]
theorem rep_ncells : ∀ ns : List (Int × List UInt8), RepRow RNote ns (ncells ns)
  | [] => rfl
  | f :: fs => ⟨_, _, rfl, rfl, rep_ncells fs⟩
theorem ncells_length : ∀ fs : List (Int × List UInt8), (ncells fs).length = fs.length * 2
  | [] => rfl
  | f :: fs => by have := ncells_length fs; simp only [ncells, List.flatMap_cons, List.length_append, List.length_cons, List.length_nil] at this ⊢; omega
theorem built_notes (w : World) (t : TypeId) (ns : List (Int × List UInt8)) (h : ns.length ≤ maxLen) : SliceIn (fun _ => True) 2 RNote (w.alloc (.cells (ncells ns).toArray t)) (.slice (some ⟨w.heap.size, 0, none⟩) ns.length ns.length) ns :=
  SliceIn.own (own_built w w.heap.size t 2 ns.length (ncells ns) (Nat.le_refl _) (ncells_length ns) h) (rep_ncells ns) RNote.size rfl (fun _ _ => trivial)
theorem index_brace (l : List UInt8) : decide (0 ≤ Lib.indexAny l [123, 125]) = l.any Ent.brace1 := by
  induction l with
  | nil => rfl
  | cons b l ih =>
    have h := Lib.indexAny_ge [123, 125] l
    unfold Lib.indexAny
    have hb : [123, 125].contains b = Ent.brace1 b := by
      have := byte_all (fun c => ([123, 125] : List UInt8).contains c == Ent.brace1 c) (by decide +kernel) b
      simpa using this
    rw [hb, List.any_cons]
    cases hbb : Ent.brace1 b
    · rw [Bool.false_or, ← ih, if_neg (by simp)]
      by_cases hm : Lib.indexAny l [123, 125] = -1
      · simp [hm]
      · rw [if_neg (by simpa using hm)]
        congr 1
        simp; omega
    · simp
theorem textok_ascii (t : List UInt8) (hl : t.length ≤ 1000000000) (h : t.all (fun b => decide (b.toNat < 128)) = true) : TextOk t := by
  intro w
  refine (Tryd.strings_ContainsAny_laid ⟨t.toArray⟩ ⟨#[123, 125]⟩ w (by rw [size_mk]; omega) (by decide) (ascii_of_all h) (ascii_of_all (by decide))).mono (fun e w' ⟨h1, h2⟩ => ⟨?_, h2⟩)
  rw [h1]
  exact congrArg (fun b => Ending.returned (.bool b)) (index_brace t)

def ents1 : List Ent.Ent := [⟨[98, 111, 111, 107], [107], [⟨[116, 105, 116, 108, 101], [65, 32, 123, 98, 125, 32, 99]⟩, ⟨[110, 111, 116, 101], [78, 46, 55]⟩]⟩]
def ents2 : List Ent.Ent := [⟨[98, 111, 111, 107], [107], [⟨[97], [49]⟩]⟩, ⟨[120], [122], [⟨[97], []⟩]⟩]
def notes2 : List (Int × List UInt8) := [(12, [97]), (12, [107]), (5, [120]), (4, [113]), (6, [120])]
theorem parse_one : Ent.parse [64, 115, 116, 114, 105, 110, 103, 123, 110, 61, 34, 78, 46, 34, 125, 32, 120, 32, 64, 66, 111, 111, 107, 123, 107, 44, 32, 84, 105, 116, 108, 101, 32, 61, 32, 123, 65, 32, 123, 98, 125, 125, 32, 35, 32, 34, 32, 99, 34, 44, 32, 110, 111, 116, 101, 61, 78, 32, 35, 32, 55, 125] = (ents1, []) := by decide +kernel
theorem parse_two : Ent.parse [64, 98, 111, 111, 107, 123, 107, 44, 97, 61, 123, 49, 125, 44, 97, 61, 123, 50, 125, 125, 64, 98, 111, 111, 107, 123, 107, 125, 64, 120, 123, 121, 32, 122, 125, 64, 120, 123, 122, 44, 97, 61, 113, 125, 64, 120] = (ents2, notes2) := by decide +kernel
theorem shown_one : Ent.shown [⟨[98, 111, 111, 107], [75], [⟨[97], [98]⟩]⟩] = ([64, 98, 111, 111, 107, 123, 75, 44, 10, 97, 61, 123, 98, 125, 125, 10], 0) := by decide +kernel
theorem shown_two : Ent.shown [⟨[115, 116, 114, 105, 110, 103], [107], []⟩] = ([], 5) := by decide +kernel
theorem parse1 (w : World) : Calls Tryd.prog 17 #[.string ⟨#[64, 115, 116, 114, 105, 110, 103, 123, 110, 61, 34, 78, 46, 34, 125, 32, 120, 32, 64, 66, 111, 111, 107, 123, 107, 44, 32, 84, 105, 116, 108, 101, 32, 61, 32, 123, 65, 32, 123, 98, 125, 125, 32, 35, 32, 34, 32, 99, 34, 44, 32, 110, 111, 116, 101, 61, 78, 32, 35, 32, 55, 125]⟩] w fun e w' => ∃ va p c, e = .returned (.tuple #[va, .slice p 0 c]) ∧ Ents (fun _ => True) w' va ents1 ∧ Below w.heap.size w w' := by
  refine (entry_parse [64, 115, 116, 114, 105, 110, 103, 123, 110, 61, 34, 78, 46, 34, 125, 32, 120, 32, 64, 66, 111, 111, 107, 123, 107, 44, 32, 84, 105, 116, 108, 101, 32, 61, 32, 123, 65, 32, 123, 98, 125, 125, 32, 35, 32, 34, 32, 99, 34, 44, 32, 110, 111, 116, 101, 61, 78, 32, 35, 32, 55, 125] w (by decide)).mono ?_
  rintro e w' ⟨vo, vn, rfl, h1, h2, h3⟩
  rw [parse_one] at h1 h2
  obtain ⟨p, c, rfl, _⟩ := h2
  exact ⟨vo, p, c, rfl, h1.wide, h3⟩
theorem parse2 (w : World) : Calls Tryd.prog 17 #[.string ⟨#[64, 98, 111, 111, 107, 123, 107, 44, 97, 61, 123, 49, 125, 44, 97, 61, 123, 50, 125, 125, 64, 98, 111, 111, 107, 123, 107, 125, 64, 120, 123, 121, 32, 122, 125, 64, 120, 123, 122, 44, 97, 61, 113, 125, 64, 120]⟩] w fun e w' => ∃ va vn, e = .returned (.tuple #[va, vn]) ∧ Ents (fun _ => True) w' va ents2 ∧ SliceIn (fun _ => True) 2 RNote w' vn notes2 ∧ Below w.heap.size w w' := by
  refine (entry_parse [64, 98, 111, 111, 107, 123, 107, 44, 97, 61, 123, 49, 125, 44, 97, 61, 123, 50, 125, 125, 64, 98, 111, 111, 107, 123, 107, 125, 64, 120, 123, 121, 32, 122, 125, 64, 120, 123, 122, 44, 97, 61, 113, 125, 64, 120] w (by decide)).mono ?_
  rintro e w' ⟨vo, vn, rfl, h1, h2, h3⟩
  rw [parse_two] at h1 h2
  exact ⟨vo, vn, rfl, h1.wide, h2.wide, h3⟩
theorem show1 (w : World) (t1 t2 : TypeId) : Calls Tryd.prog 9 #[.slice (some ⟨w.heap.size + 1, 0, none⟩) 1 1] ((w.alloc (.cells #[.string ⟨#[97]⟩, .string ⟨#[98]⟩] t1)).alloc (.cells #[.string ⟨#[98, 111, 111, 107]⟩, .string ⟨#[75]⟩, .slice (some ⟨w.heap.size, 0, none⟩) 1 1] t2)) fun e w' => e = .returned (.tuple #[.string ⟨#[64, 98, 111, 111, 107, 123, 75, 44, 10, 97, 61, 123, 98, 125, 125, 10]⟩, .int .i64 0]) ∧ Below w.heap.size w w' := by
  have hf := built_flds w t1 [⟨[97], [98]⟩] (by decide)
  have he := built_ents (w.alloc (.cells #[.string ⟨#[97]⟩, .string ⟨#[98]⟩] t1)) t2 [(⟨[98, 111, 111, 107], [75], [⟨[97], [98]⟩]⟩, .slice (some ⟨w.heap.size, 0, none⟩) 1 1)] (by show 1 ≤ maxLen; decide) (fun p hp => by
    simp at hp; subst hp; exact hf)
  rw [size_alloc1] at he
  have hb : Below w.heap.size w ((w.alloc (.cells #[.string ⟨#[97]⟩, .string ⟨#[98]⟩] t1)).alloc (.cells #[.string ⟨#[98, 111, 111, 107]⟩, .string ⟨#[75]⟩, .slice (some ⟨w.heap.size, 0, none⟩) 1 1] t2)) := (below_new w _).alloc (by rw [size_alloc1]; omega) _
  refine (entry_show [⟨[98, 111, 111, 107], [75], [⟨[97], [98]⟩]⟩] _ _ _ he (fun x hx => by
    simp at hx; subst hx
    exact ⟨by decide, by decide, fun f hf => by simp at hf; subst hf; exact ⟨by decide, by decide, textok_ascii _ (by decide) (by decide)⟩⟩) (by decide) (by decide)).mono ?_
  rintro e w' ⟨rfl, h2⟩
  rw [shown_one]
  exact ⟨rfl, hb.trans (h2.mono hb.size)⟩
theorem show2 (w : World) (t2 : TypeId) : Calls Tryd.prog 9 #[.slice (some ⟨w.heap.size, 0, none⟩) 1 1] (w.alloc (.cells #[.string ⟨#[115, 116, 114, 105, 110, 103]⟩, .string ⟨#[107]⟩, .slice none 0 0] t2)) fun e w' => e = .returned (.tuple #[.string ⟨#[]⟩, .int .i64 5]) ∧ Below w.heap.size w w' := by
  have he := built_ents w t2 [(⟨[115, 116, 114, 105, 110, 103], [107], []⟩, .slice none 0 0)] (by decide) (fun p hp => by
    simp at hp; subst hp; exact SliceIn.nil _ _ _ _)
  have hb := below_new w (.cells #[.string ⟨#[115, 116, 114, 105, 110, 103]⟩, .string ⟨#[107]⟩, .slice none 0 0] t2)
  refine (entry_show [⟨[115, 116, 114, 105, 110, 103], [107], []⟩] _ _ _ he (fun x hx => by
    simp at hx; subst hx
    exact ⟨by decide, by decide, fun f hf => by simp at hf⟩) (by decide) (by decide)).mono ?_
  rintro e w' ⟨rfl, h2⟩
  rw [shown_two]
  exact ⟨rfl, hb.trans (h2.mono hb.size)⟩
theorem get1 (w : World) (t1 : TypeId) (v0 v1 : Value) : Calls Tryd.prog 14 #[.agg #[v0, v1, .slice (some ⟨w.heap.size, 0, none⟩) 2 2], .string ⟨#[97]⟩] (w.alloc (.cells #[.string ⟨#[97]⟩, .string ⟨#[49]⟩, .string ⟨#[97]⟩, .string ⟨#[50]⟩] t1)) fun e w' => e = .returned (.tuple #[.string ⟨#[49]⟩, .bool true]) ∧ Below w.heap.size w w' := by
  have hf := built_flds w t1 [⟨[97], [49]⟩, ⟨[97], [50]⟩] (by decide)
  refine (entry_get [⟨[97], [49]⟩, ⟨[97], [50]⟩] v0 v1 _ [97] _ _ hf).mono ?_
  rintro e w' ⟨rfl, h2⟩
  exact ⟨rfl, (below_new w _).trans (h2.mono (below_new w _).size)⟩
theorem get2 (w : World) (v0 v1 : Value) : Calls Tryd.prog 14 #[.agg #[v0, v1, .slice none 0 0], .string ⟨#[97]⟩] w fun e w' => e = .returned (.tuple #[.string ⟨#[]⟩, .bool false]) ∧ Below w.heap.size w w' := by
  refine (entry_get [] v0 v1 _ [97] _ w (SliceIn.nil (fun _ => True) _ _ _)).mono ?_
  rintro e w' ⟨rfl, h2⟩
  exact ⟨rfl, h2⟩

theorem same1 (w : World) (t1 t2 : TypeId) (vr : Value) (h : Ents (fun _ => True) w vr ents1) : Calls Tryd.prog 18 #[vr, .slice (some ⟨w.heap.size + 1, 0, none⟩) 1 1]
    ((w.alloc (.cells #[.string ⟨#[116, 105, 116, 108, 101]⟩, .string ⟨#[65, 32, 123, 98, 125, 32, 99]⟩, .string ⟨#[110, 111, 116, 101]⟩, .string ⟨#[78, 46, 55]⟩] t1)).alloc (.cells #[.string ⟨#[98, 111, 111, 107]⟩, .string ⟨#[107]⟩, .slice (some ⟨w.heap.size, 0, none⟩) 2 2] t2)) fun e w' => e = .returned (.bool true) ∧ Below w.heap.size w w' := by
  have hf := built_flds w t1 [⟨[116, 105, 116, 108, 101], [65, 32, 123, 98, 125, 32, 99]⟩, ⟨[110, 111, 116, 101], [78, 46, 55]⟩] (by decide)
  have he := built_ents (w.alloc (.cells #[.string ⟨#[116, 105, 116, 108, 101]⟩, .string ⟨#[65, 32, 123, 98, 125, 32, 99]⟩, .string ⟨#[110, 111, 116, 101]⟩, .string ⟨#[78, 46, 55]⟩] t1)) t2 [(⟨[98, 111, 111, 107], [107], [⟨[116, 105, 116, 108, 101], [65, 32, 123, 98, 125, 32, 99]⟩, ⟨[110, 111, 116, 101], [78, 46, 55]⟩]⟩, .slice (some ⟨w.heap.size, 0, none⟩) 2 2)] (by show 1 ≤ maxLen; decide) (fun p hp => by
    simp at hp; subst hp; exact hf)
  rw [size_alloc1] at he
  have hb : Below w.heap.size w ((w.alloc (.cells #[.string ⟨#[116, 105, 116, 108, 101]⟩, .string ⟨#[65, 32, 123, 98, 125, 32, 99]⟩, .string ⟨#[110, 111, 116, 101]⟩, .string ⟨#[78, 46, 55]⟩] t1)).alloc (.cells #[.string ⟨#[98, 111, 111, 107]⟩, .string ⟨#[107]⟩, .slice (some ⟨w.heap.size, 0, none⟩) 2 2] t2)) := (below_new w _).alloc (by rw [size_alloc1]; omega) _
  refine (ref15_same ents1 ents1 vr _ _ _ _ (h.below hb) he).mono ?_
  rintro e w' ⟨rfl, h2⟩
  exact ⟨by simp, hb.trans (h2.mono hb.size)⟩
theorem same2 (w : World) (t1 t2 t3 : TypeId) (vr : Value) (h : Ents (fun _ => True) w vr ents2) : Calls Tryd.prog 18 #[vr, .slice (some ⟨w.heap.size + 1 + 1, 0, none⟩) 2 2]
    (((w.alloc (.cells #[.string ⟨#[97]⟩, .string ⟨#[49]⟩] t1)).alloc (.cells #[.string ⟨#[97]⟩, .string ⟨#[]⟩] t2)).alloc (.cells #[.string ⟨#[98, 111, 111, 107]⟩, .string ⟨#[107]⟩, .slice (some ⟨w.heap.size, 0, none⟩) 1 1, .string ⟨#[120]⟩, .string ⟨#[122]⟩, .slice (some ⟨w.heap.size + 1, 0, none⟩) 1 1] t3)) fun e w' => e = .returned (.bool true) ∧ Below w.heap.size w w' := by
  obtain ⟨W1, h1⟩ : ∃ W1, W1 = w.alloc (.cells #[.string ⟨#[97]⟩, .string ⟨#[49]⟩] t1) := ⟨_, rfl⟩
  obtain ⟨W2, h2⟩ : ∃ W2, W2 = W1.alloc (.cells #[.string ⟨#[97]⟩, .string ⟨#[]⟩] t2) := ⟨_, rfl⟩
  have s1 : W1.heap.size = w.heap.size + 1 := by rw [h1, size_alloc1]
  have s2 : W2.heap.size = w.heap.size + 1 + 1 := by rw [h2, size_alloc1, s1]
  have b1 : Below w.heap.size w W1 := by rw [h1]; exact below_new _ _
  have b2 : Below W1.heap.size W1 W2 := by rw [h2]; exact below_new _ _
  have hf1 : SliceIn (fun _ => True) 2 RFld W1 (.slice (some ⟨w.heap.size, 0, none⟩) 1 1) [⟨[97], [49]⟩] := by rw [h1]; exact built_flds w t1 [⟨[97], [49]⟩] (by decide)
  have hf2 : SliceIn (fun _ => True) 2 RFld W2 (.slice (some ⟨W1.heap.size, 0, none⟩) 1 1) [⟨[97], []⟩] := by rw [h2]; exact built_flds W1 t2 [⟨[97], []⟩] (by decide)
  have he := built_ents W2 t3 [(⟨[98, 111, 111, 107], [107], [⟨[97], [49]⟩]⟩, .slice (some ⟨w.heap.size, 0, none⟩) 1 1), (⟨[120], [122], [⟨[97], []⟩]⟩, .slice (some ⟨W1.heap.size, 0, none⟩) 1 1)] (by show 2 ≤ maxLen; decide) (fun p hp => by
    rcases List.mem_cons.1 hp with rfl | hp
    · exact hf1.belowR b2
    · rcases List.mem_cons.1 hp with rfl | hp
      · exact hf2
      · cases hp)
  rw [← h1, ← h2]
  rw [s2, s1] at he
  have b3 := below_new W2 (.cells #[.string ⟨#[98, 111, 111, 107]⟩, .string ⟨#[107]⟩, .slice (some ⟨w.heap.size, 0, none⟩) 1 1, .string ⟨#[120]⟩, .string ⟨#[122]⟩, .slice (some ⟨w.heap.size + 1, 0, none⟩) 1 1] t3)
  have hb := (b1.trans (b2.mono b1.size)).trans (b3.mono (by omega))
  refine (ref15_same ents2 ents2 vr _ _ _ _ (h.below hb) he).mono ?_
  rintro e w' ⟨rfl, h5⟩
  exact ⟨by simp, hb.trans (h5.mono hb.size)⟩
theorem notes1 (w : World) (t1 : TypeId) (vn : Value) (h : SliceIn (fun _ => True) 2 RNote w vn notes2) : Calls Tryd.prog 26 #[vn, .slice (some ⟨w.heap.size, 0, none⟩) 5 5]
    (w.alloc (.cells #[.int .i64 12, .string ⟨#[97]⟩, .int .i64 12, .string ⟨#[107]⟩, .int .i64 5, .string ⟨#[120]⟩, .int .i64 4, .string ⟨#[113]⟩, .int .i64 6, .string ⟨#[120]⟩] t1)) fun e w' => e = .returned (.bool true) ∧ Below w.heap.size w w' := by
  have hn := built_notes w t1 notes2 (by decide)
  have hb := below_new w (.cells #[.int .i64 12, .string ⟨#[97]⟩, .int .i64 12, .string ⟨#[107]⟩, .int .i64 5, .string ⟨#[120]⟩, .int .i64 4, .string ⟨#[113]⟩, .int .i64 6, .string ⟨#[120]⟩] t1)
  refine (ref08_notes notes2 notes2 vn _ _ _ _ (h.belowR hb) hn).mono ?_
  rintro e w' ⟨rfl, h5⟩
  exact ⟨by simp, hb.trans (h5.mono hb.size)⟩

set_option maxRecDepth 100000 in
set_option maxHeartbeats 1600000 in
theorem law_fixed (w : World) : Calls Tryd.prog 16 #[] w fun e w' => e = .returned (.bool true) ∧ Below w.heap.size w w' := by
  go_enter Tryd.func16, Tryd.ntmps16
  go_upto_region 2 with (go_at_call 17; refine (parse1 _).mono ?_; rintro e w1 ⟨va, pa, ca, rfl, hA, hb⟩; have HA := Lib.hid hA; have HB := Lib.hid hb; clear hA hb)
  go_upto_region 3 with (go_at_call 17; refine (parse2 _).mono ?_; rintro e w2 ⟨vb, nb, rfl, hA, hN, hb⟩; replace HA := Lib.hid (HA.out.below hb); have HA2 := Lib.hid hA; have HN := Lib.hid hN; replace HB := Lib.hid (HB.out.trans (hb.mono HB.out.size)); clear hA hN hb)
  go_upto_region 4 with (go_at_call 9; refine (show1 w2 _ _).mono ?_; rintro e w3 ⟨rfl, hb⟩; replace HA := Lib.hid (HA.out.below hb); replace HA2 := Lib.hid (HA2.out.below hb); replace HN := Lib.hid (HN.out.belowR hb); replace HB := Lib.hid (HB.out.trans (hb.mono HB.out.size)); clear hb)
  go_upto_region 5 with (go_at_call 9; refine (show2 w3 _).mono ?_; rintro e w4 ⟨rfl, hb⟩; replace HA := Lib.hid (HA.out.below hb); replace HA2 := Lib.hid (HA2.out.below hb); replace HN := Lib.hid (HN.out.belowR hb); replace HB := Lib.hid (HB.out.trans (hb.mono HB.out.size)); clear hb)
  go_upto_region 6 with (go_at_call 14; refine (get1 w4 _ _ _).mono ?_; rintro e w5 ⟨rfl, hb⟩; replace HA := Lib.hid (HA.out.below hb); replace HA2 := Lib.hid (HA2.out.below hb); replace HN := Lib.hid (HN.out.belowR hb); replace HB := Lib.hid (HB.out.trans (hb.mono HB.out.size)); clear hb)
  go_upto_region 7 with (go_at_call 14; refine (get2 _ _ _).mono ?_; rintro e w6 ⟨rfl, hb⟩; replace HA := Lib.hid (HA.out.below hb); replace HA2 := Lib.hid (HA2.out.below hb); replace HN := Lib.hid (HN.out.belowR hb); replace HB := Lib.hid (HB.out.trans (hb.mono HB.out.size)); clear hb)
  go_wp2_with (first
    | (go_at_call 11; with_reducible refine (law_refs ents1 va _ _ HA.out (by decide) (by decide)).mono ?_; rintro e w7 ⟨vr, rfl, hO, hb⟩; have HR := Lib.hid hO.ents; clear hO; replace HA := Lib.hid (HA.out.below hb); replace HA2 := Lib.hid (HA2.out.below hb); replace HN := Lib.hid (HN.out.belowR hb); replace HB := Lib.hid (HB.out.trans (hb.mono HB.out.size)); clear hb)
    | (go_at_call 18; with_reducible refine (same1 w7 _ _ vr HR.out).mono ?_; rintro e w8 ⟨rfl, hb⟩; replace HA := Lib.hid (HA.out.below hb); replace HA2 := Lib.hid (HA2.out.below hb); replace HN := Lib.hid (HN.out.belowR hb); replace HB := Lib.hid (HB.out.trans (hb.mono HB.out.size)); clear hb)
    | (go_at_call 11; with_reducible refine (law_refs ents2 vb _ _ HA2.out (by decide) (by decide)).mono ?_; rintro e w9 ⟨vr2, rfl, hO, hb⟩; have HR2 := Lib.hid hO.ents; clear hO; replace HA := Lib.hid (HA.out.below hb); replace HA2 := Lib.hid (HA2.out.below hb); replace HN := Lib.hid (HN.out.belowR hb); replace HB := Lib.hid (HB.out.trans (hb.mono HB.out.size)); clear hb)
    | (go_at_call 18; with_reducible refine (same2 w9 _ _ _ vr2 HR2.out).mono ?_; rintro e w10 ⟨rfl, hb⟩; replace HA := Lib.hid (HA.out.below hb); replace HA2 := Lib.hid (HA2.out.below hb); replace HN := Lib.hid (HN.out.belowR hb); replace HB := Lib.hid (HB.out.trans (hb.mono HB.out.size)); clear hb)
    | (go_at_call 26; refine (notes1 w10 _ nb HN.out).mono ?_; rintro e w11 ⟨rfl, hb⟩; replace HA := Lib.hid (HA.out.below hb); replace HA2 := Lib.hid (HA2.out.below hb); replace HN := Lib.hid (HN.out.belowR hb); replace HB := Lib.hid (HB.out.trans (hb.mono HB.out.size)); clear hb))
  go_ret
  exact ⟨rfl, HB.out⟩
end Go.Proofs.YtddgdfcgjjdlcaaDoor
