/- Plain facts: the calls of layer 10 whose answers the document fixes. Plain Lean, no program in sight. -/
import Derived.Test.YtimmmjmmjokdbaaGreatDoorSidM
namespace Go.Proofs.YtimmmjmmjokdbaaGreatDoor.Sd
def x0 : Side := ⟨[⟨[107], [49, 46, 50], 3⟩], [⟨1, [49], [65, 32, 98], 1⟩], [[99]], [[114, 101, 102, 115]]⟩
def s0 : List UInt8 := [50, 50, 58, 53, 58, 108, 97, 98, 101, 108, 44, 49, 58, 107, 44, 51, 58, 49, 46, 50, 44, 49, 58, 51, 44, 44, 50, 53, 58, 52, 58, 104, 101, 97, 100, 44, 49, 58, 49, 44, 49, 58, 49, 44, 51, 58, 65, 32, 98, 44, 49, 58, 49, 44, 44, 49, 49, 58, 52, 58, 99, 105, 116, 101, 44, 49, 58, 99, 44, 44, 49, 51, 58, 51, 58, 98, 105, 98, 44, 52, 58, 114, 101, 102, 115, 44, 44]
def putF (s : List UInt8) : List UInt8 := Cnt.decF 6 s.length ++ [58] ++ s ++ [44]
def putsF (ts : List (List UInt8)) : List UInt8 := (ts.map putF).flatten
def digF (n : Int) : List UInt8 := Cnt.decF 6 n.toNat
def recsF (x : Side) : List (List UInt8) := x.labs.map (fun l => putsF [labW, l.key, l.num, digF l.page]) ++ x.heads.map (fun h => putsF [headW, digF h.level, h.num, h.title, digF h.page]) ++ x.cites.map (fun s => putsF [citeW, s]) ++ x.bibs.map (fun s => putsF [bibW, s])
theorem putF_eq (s : List UInt8) (h : s.length ≤ 999999) : put s = putF s := by unfold put putF; rw [Cnt.itoa_dec _ h]
theorem putsF_eq : ∀ (ts : List (List UInt8)), (∀ t ∈ ts, t.length ≤ 999999) → puts ts = putsF ts
  | [], _ => rfl
  | t :: ts, h => by
    have := putsF_eq ts (fun u hu => h u (by simp [hu]))
    rw [puts_cons, putF_eq t (h t (by simp)), this]; rfl
theorem digF_eq (n : Int) (h0 : 0 ≤ n) (h : n ≤ 999999) : dig n = digF n := by
  obtain ⟨k, rfl⟩ := Int.eq_ofNat_of_zero_le h0
  rw [dig_nat k (by omega)]; rfl
theorem recsF_eq (x : Side) (h : Small x) : recs x = recsF x := by
  have h1 : x.labs.map recL = x.labs.map (fun l => putsF [labW, l.key, l.num, digF l.page]) := List.map_congr_left fun l hl => by
    have hs := h.lab l hl
    have := putsF_eq _ (big (labL l hs))
    unfold recL
    rw [this, digF_eq _ hs.2.2.1 hs.2.2.2]
  have h2 : x.heads.map recH = x.heads.map (fun h => putsF [headW, digF h.level, h.num, h.title, digF h.page]) := List.map_congr_left fun l hl => by
    have hs := h.head l hl
    have := putsF_eq _ (big (headL l hs))
    unfold recH
    rw [this, digF_eq _ hs.2.2.1 hs.2.2.2.1, digF_eq _ hs.2.2.2.2.1 hs.2.2.2.2.2]
  have h3 : x.cites.map recC = x.cites.map (fun s => putsF [citeW, s]) := List.map_congr_left fun l hl => putsF_eq _ (big (citeL citeW l (by decide) (h.cite l hl)))
  have h4 : x.bibs.map recB = x.bibs.map (fun s => putsF [bibW, s]) := List.map_congr_left fun l hl => putsF_eq _ (big (citeL bibW l (by decide) (h.bib l hl)))
  unfold recs recsF
  rw [h1, h2, h3, h4]
theorem encF_eq (x : Side) (h : Small x) : encN x = putsF (recsF x) := by rw [encN_puts, putsF_eq _ (recs_small x h), recsF_eq x h]
theorem fix_right : right x0 = true := by decide +kernel
theorem fix_enc : encN x0 = s0 := by rw [encF_eq x0 (right_small x0 fix_right)]; decide +kernel
theorem fix_dec : dec s0 = some x0 := by rw [← fix_enc]; exact dec_enc x0 fix_right
theorem fix_x : dec [120] = none := by decide +kernel
theorem fix_blank : dec [49, 50, 58, 52, 58, 99, 105, 116, 101, 44, 50, 58, 97, 32, 44, 44] = none := by decide +kernel
theorem fix_twice : dec [49, 49, 58, 52, 58, 99, 105, 116, 101, 44, 49, 58, 97, 44, 44, 49, 49, 58, 52, 58, 99, 105, 116, 101, 44, 49, 58, 97, 44, 44] = none := by decide +kernel
theorem fix_empty : dec [] = some none_ := by decide +kernel
theorem fix_find : find x0.labs [107] = some ⟨[107], [49, 46, 50], 3⟩ := by decide +kernel
theorem fix_nofind : find x0.labs [99] = none := by decide +kernel
theorem fix_wrong : right ⟨[], [], [[]], []⟩ = false := by decide +kernel
end Go.Proofs.YtimmmjmmjokdbaaGreatDoor.Sd
