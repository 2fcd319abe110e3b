/- The walks of the reference of layer 1, second part: ten, roman, Text, read, Value. -/
import Derived.Test.YtimmmjmmjokdbaaGreatDoorRefA
namespace Go.Proofs.YtimmmjmmjokdbaaGreatDoor
open Go.RowKit

/-- a digit's numeral -/
def tenR (r : Nat) (one five ten : List UInt8) : List UInt8 :=
  match r with
  | 0 => [] | 1 => one | 2 => one ++ one | 3 => one ++ one ++ one | 4 => one ++ five | 5 => five | 6 => five ++ one | 7 => five ++ one ++ one | 8 => five ++ one ++ one ++ one | _ => one ++ ten
def tenS (d : Nat) (one five ten : List UInt8) : List UInt8 := tenR (d % 10) one five ten

set_option maxRecDepth 100000 in
set_option maxHeartbeats 1000000 in
theorem ref01_ten (d : Nat) (one five ten : List UInt8) (w : World) (hd : d ≤ 4000) (h1 : one.length ≤ 1) (h5 : five.length ≤ 1) (h10 : ten.length ≤ 1) :
    Calls Tryz.prog 97 #[.int .i64 (d : Int), .string ⟨one.toArray⟩, .string ⟨five.toArray⟩, .string ⟨ten.toArray⟩] w fun e w' => e = .returned (.string ⟨(tenS d one five ten).toArray⟩) ∧ Below w.heap.size w w' := by
  obtain ⟨r, hr⟩ : ∃ r, d % 10 = r := ⟨_, rfl⟩
  have hrd : (d : Int) % 10 = (r : Int) := by omega
  have hr10 : r < 10 := by omega
  have ht : tenS d one five ten = tenR r one five ten := by unfold tenS; rw [hr]
  have HT := Lib.hid ht
  clear hr ht
  match r, hr10 with
  | 0, _ | 1, _ | 2, _ | 3, _ | 4, _ | 5, _ | 6, _ | 7, _ | 8, _ | 9, _ =>
    go_enter Tryz.func97, Tryz.ntmps97
    go_wp2_with fail
    go_ret
    refine ⟨?_, (Below.refl _ _).alloc (Nat.le_refl _) _⟩
    rw [HT.out]
    simp only [append_data, tenR]
    rfl
end Go.Proofs.YtimmmjmmjokdbaaGreatDoor
