/- errors.As at the target *api.Errno over a *wire.wrong: the first link is another type, the second one hits. After the kit's worked example. -/
import Derived.Test.YthoblbdkmlggbaaGreatDoorChecked
import Derived.Test.YthoblbdkmlggbaaGreatDoorShelf
import Derived.Test.YthoblbdkmlggbaaGreatDoorBase
import Derived.WalkKit
import Derived.LaidEql
import Derived.Stop.Asserts
import Derived.RowKitTokens
set_option linter.unusedSimpArgs false
set_option linter.unusedVariables false
namespace Go.Proofs.YthoblbdkmlggbaaGreatDoor
open Go.RowKit Go.Extern.Stop Go.Stop Go.Extern
namespace asErr
abbrev hd (t : Nat) : Value := .pointer (some ⟨9, t, none⟩)
theorem valueOfP (t : Addr) (w : World) : (ReflectliteValue.unpack (.iface 147 (.pointer (some t)))).run Tryz.prog w
    = .ok (.agg #[.pointer (some ⟨9, 147, none⟩), .pointer (some ⟨w.heap.size, 0, none⟩), .int .u64 150]) (w.alloc (.cells #[.pointer (some t)] 147)) := by kernel_rfl
theorem typeP (a : Addr) (w : World) : (ReflectliteValue.methodAny (ReflectliteValue.valueError "reflectlite.Value.Type" 0) (fun t _ _ _ => ReflectliteType.toType t) #[.agg #[.pointer (some ⟨9, 147, none⟩), .pointer (some a), .int .u64 150]]).run Tryz.prog w
    = .ok (.iface 204 (.agg #[.pointer (some ⟨9, 147, none⟩)])) w := by kernel_rfl
theorem methodKind (h : Value) (w : World) : (Go.method 363 204 (.agg #[h]) "Kind").run Tryz.prog w = .ok (196, h) w := by kernel_rfl
theorem kindP (w : World) : ((ReflectliteType.abiMethod fun t => (fun a : Nat => Value.int IntKind.u8 (a : Int)) <$> Rtype.kind t) #[.pointer (some ⟨9, 147, none⟩)]).run Tryz.prog w = .ok (.int .u8 22) w := by kernel_rfl
theorem kindE (w : World) : ((ReflectliteType.abiMethod fun t => (fun a : Nat => Value.int IntKind.u8 (a : Int)) <$> Rtype.kind t) #[.pointer (some ⟨9, 49, none⟩)]).run Tryz.prog w = .ok (.int .u8 2) w := by kernel_rfl
theorem rlm (z : Sem Value) (f : TypeId → Addr → Nat → Nat → Sem Value) (v : Value) :
    ReflectliteValue.method z f #[v] = (do match ← ReflectliteValue.parts v with | none => z | some (t, a, fl) => f t a fl (fl % 32)) := rfl
theorem partsP (a : Addr) (w : World) : (ReflectliteValue.parts (.agg #[.pointer (some ⟨9, 147, none⟩), .pointer (some a), .int .u64 150])).run Tryz.prog w = .ok (some (147, a, 150)) w := by kernel_rfl
theorem isNilP (a p : Addr) (W : World) (ha : W.cell? a = some (.pointer (some p))) :
    (ReflectliteValue.method (ReflectliteValue.valueError "reflectlite.Value.IsNil" 0) ReflectliteValue.isNil #[.agg #[.pointer (some ⟨9, 147, none⟩), .pointer (some a), .int .u64 150]]).run Tryz.prog W = .ok (.bool false) W := by
  rw [rlm]
  simp only [Sem.run_bind, partsP, Result.andThen]
  simp [ReflectliteValue.isNil, loadVar, isAgg, underlying, Tryz.underlying147, ha, Result.andThen]
theorem methodElem (h : Value) (w : World) : (Go.method 363 204 (.agg #[h]) "Elem").run Tryz.prog w = .ok (209, .agg #[h]) w := by kernel_rfl
theorem methodImplements (h : Value) (w : World) : (Go.method 363 204 (.agg #[h]) "Implements").run Tryz.prog w = .ok (210, .agg #[h]) w := by kernel_rfl
theorem methodAssignableTo (h : Value) (w : World) : (Go.method 363 204 (.agg #[h]) "AssignableTo").run Tryz.prog w = .ok (207, .agg #[h]) w := by kernel_rfl
theorem methodUnwrap (p : Addr) (w : World) : (Go.method 363 141 (.pointer (some p)) "Unwrap").run Tryz.prog w = .ok (202, .pointer (some p)) w := by kernel_rfl
theorem elemP (w : World) : (ReflectliteType.method ReflectliteType.elem #[.agg #[.pointer (some ⟨9, 147, none⟩)]]).run Tryz.prog w = .ok (.iface 204 (.agg #[.pointer (some ⟨9, 49, none⟩)])) w := by kernel_rfl
theorem implementsE (w : World) : (ReflectliteType.relation "Implements" ReflectliteType.implements_ #[.agg #[.pointer (some ⟨9, 49, none⟩)], .iface 204 (.agg #[.pointer (some ⟨9, 105, none⟩)])]).run Tryz.prog w = .ok (.bool true) w := by kernel_rfl
theorem typeOfE (v : Value) (w : World) : (ReflectliteType.typeOf #[.iface 49 v]).run Tryz.prog w = .ok (.iface 204 (.agg #[.pointer (some ⟨9, 49, none⟩)])) w := by kernel_rfl
theorem typeOfW (v : Value) (w : World) : (ReflectliteType.typeOf #[.iface 141 v]).run Tryz.prog w = .ok (.iface 204 (.agg #[.pointer (some ⟨9, 141, none⟩)])) w := by kernel_rfl
theorem assignE (w : World) : (ReflectliteType.relation "AssignableTo" ReflectliteType.assignableTo #[.agg #[.pointer (some ⟨9, 49, none⟩)], .iface 204 (.agg #[.pointer (some ⟨9, 49, none⟩)])]).run Tryz.prog w = .ok (.bool true) w := by kernel_rfl
theorem assignW (w : World) : (ReflectliteType.relation "AssignableTo" ReflectliteType.assignableTo #[.agg #[.pointer (some ⟨9, 141, none⟩)], .iface 204 (.agg #[.pointer (some ⟨9, 49, none⟩)])]).run Tryz.prog w = .ok (.bool false) w := by kernel_rfl
theorem valueOfE (n : Int) (w : World) : (ReflectliteValue.unpack (.iface 49 (.int .i64 n))).run Tryz.prog w
    = .ok (.agg #[.pointer (some ⟨9, 49, none⟩), .pointer (some ⟨w.heap.size, 0, none⟩), .int .u64 130]) (w.alloc (.cells #[.int .i64 n] 49)) := by kernel_rfl
theorem elemOfP (w : World) : (Rtype.elem? 147).run Tryz.prog w = .ok (some 49) w := by kernel_rfl
theorem mkE (p : Addr) (w : World) : (ReflectliteValue.mk 49 p ReflectliteValue.flagAddr).run Tryz.prog w = .ok (.agg #[.pointer (some ⟨9, 49, none⟩), .pointer (some p), .int .u64 386]) w := by kernel_rfl
theorem elemVP (a p : Addr) (W : World) (ha : W.cell? a = some (.pointer (some p))) :
    (ReflectliteValue.method (ReflectliteValue.valueError "reflectlite.Value.Elem" 0) ReflectliteValue.elem #[.agg #[.pointer (some ⟨9, 147, none⟩), .pointer (some a), .int .u64 150]]).run Tryz.prog W
      = .ok (.agg #[.pointer (some ⟨9, 49, none⟩), .pointer (some p), .int .u64 386]) W := by
  rw [rlm]
  simp only [Sem.run_bind, partsP, Result.andThen]
  simp [ReflectliteValue.elem, loadVar, isAgg, underlying, Tryz.underlying147, ha, Result.andThen, elemOfP, mkE]
theorem rls (v x : Value) : ReflectliteValue.set #[v, x] = (do
    let (some (dst, a, fl), some (src, b, _)) := (← ReflectliteValue.parts v, ← ReflectliteValue.parts x)
      | unsupported (.noEntry "extern/(internal/reflectlite.Value).Set.zeroValue")
    if fl / ReflectliteValue.flagAddr % 2 == 0 then unsupported (.noEntry "extern/(internal/reflectlite.Value).Set.unaddressable")
    let val ← loadVar src b
    if ← Rtype.directlyAssignable dst src then storeVar dst a val
    else if ← Rtype.implements dst src then
      if (← Rtype.kind src) == 20 then
        match val with
        | .nilIface => unsupported (.noEntry "extern/reflectlite: a nil value of one interface type handed on as a value of another")
        | _ => storeVar dst a val
      else storeVar dst a (.iface src val)
    else panicString ("reflectlite.Set: value of type " ++ (← Rtype.spelt src) ++ " is not assignable to type " ++ (← Rtype.spelt dst))
    pure (.tuple #[])) := rfl
theorem partsEa (a : Addr) (w : World) : (ReflectliteValue.parts (.agg #[.pointer (some ⟨9, 49, none⟩), .pointer (some a), .int .u64 386])).run Tryz.prog w = .ok (some (49, a, 386)) w := by kernel_rfl
theorem partsE (a : Addr) (w : World) : (ReflectliteValue.parts (.agg #[.pointer (some ⟨9, 49, none⟩), .pointer (some a), .int .u64 130])).run Tryz.prog w = .ok (some (49, a, 130)) w := by kernel_rfl
theorem directE (w : World) : (Rtype.directlyAssignable 49 49).run Tryz.prog w = .ok true w := by kernel_rfl
theorem setE (ta b : Addr) (n : Int) (old : Value) (W : World) (hb : W.cell? b = some (.int .i64 n)) (ht : W.cell? ta = some old) (hf : W.frozen? ta = false) :
    (ReflectliteValue.set #[.agg #[.pointer (some ⟨9, 49, none⟩), .pointer (some ta), .int .u64 386], .agg #[.pointer (some ⟨9, 49, none⟩), .pointer (some b), .int .u64 130]]).run Tryz.prog W
      = .ok (.tuple #[]) (W.setCell ta (.int .i64 n)) := by
  rw [rls]
  simp only [Sem.run_bind, partsEa, partsE, Result.andThen]
  simp [ReflectliteValue.flagAddr, loadVar, isAgg, underlying, Tryz.underlying49, hb, Result.andThen, directE, storeVar, Value.cells, storeCells, Addr.add]
  rw [run_store Tryz.prog W ta _ _ (by rfl)]
  simp [ht, hf]
theorem noAs (v : Value) (w : World) : (Instr.typeAssert (.iface 141 v) 105 209 true).run Tryz.prog w = .ok (.tuple #[.nilIface, .bool false]) w := run_typeAssert_lacksB Tryz.underlying209 (by kernel_rfl) (by kernel_rfl) v 105 w
theorem hasUn (v : Value) (w : World) : (Instr.typeAssert (.iface 141 v) 105 212 true).run Tryz.prog w = .ok (.tuple #[.iface 141 v, .bool true]) w := run_typeAssert_hasB Tryz.underlying212 (by kernel_rfl) v 105 w
end asErr
/-- (*wrong).Unwrap -/
theorem wire_unwrap (g : Nat) (e : Int) (w : World) (h : w.cell? ⟨g, 1, none⟩ = some (.int .i64 e)) :
    Calls Tryz.prog 202 #[.pointer (some ⟨g, 0, none⟩)] w fun ev w' => ev = .returned (.iface 49 (.int .i64 e)) ∧ w = w' := by
  go_enter Tryz.func202, Tryz.ntmps202
  go_wp2_with fail
  go_ret
  exact ⟨rfl, rfl⟩
set_option maxRecDepth 100000 in
set_option maxHeartbeats 4000000 in
theorem std_as_loop (g : Nat) (e n0 : Int) (t a : Addr) (w : World) (hp : w.cell? ⟨g, 1, none⟩ = some (.int .i64 e)) (ha : w.cell? a = some (.pointer (some t))) (ht0 : w.cell? t = some (.int .i64 n0)) (hf0 : w.frozen? t = false) :
    Calls Tryz.prog 146 #[.iface 141 (.pointer (some ⟨g, 0, none⟩)), .iface 147 (.pointer (some t)), .agg #[.pointer (some ⟨9, 147, none⟩), .pointer (some a), .int .u64 150], .iface 204 (.agg #[.pointer (some ⟨9, 49, none⟩)])] w
      fun ev w' => ev = .returned (.bool true) ∧ ∃ W, w' = W.setCell t (.int .i64 e) ∧ Below w.heap.size w W := by
  have h10 := @run_callFunc_extern Tryz.prog 168 _ ReflectliteType.typeOf Tryz.func168 (by kernel_rfl) (by kernel_rfl) (by kernel_rfl) (by kernel_rfl)
  have h35 := @run_callFunc_extern Tryz.prog 207 _ (ReflectliteType.relation "AssignableTo" ReflectliteType.assignableTo) Tryz.func207 (by kernel_rfl) (by kernel_rfl) (by kernel_rfl) (by kernel_rfl)
  have h6 := @run_callFunc_extern Tryz.prog 143 _ (fun args => ReflectliteValue.unpack (args.getD 0 (.tuple #[]))) Tryz.func143 (by kernel_rfl) (by kernel_rfl) (by kernel_rfl) (by kernel_rfl)
  have h11 := @run_callFunc_extern Tryz.prog 169 _ (ReflectliteValue.method (ReflectliteValue.valueError "reflectlite.Value.Elem" 0) ReflectliteValue.elem) Tryz.func169 (by kernel_rfl) (by kernel_rfl) (by kernel_rfl) (by kernel_rfl)
  have h12 := @run_callFunc_extern Tryz.prog 170 _ ReflectliteValue.set Tryz.func170 (by kernel_rfl) (by kernel_rfl) (by kernel_rfl) (by kernel_rfl)
  have tE := asErr.typeOfE
  have tW := asErr.typeOfW
  have mA := asErr.methodAssignableTo
  have aE := asErr.assignE
  have aW := asErr.assignW
  have vE := asErr.valueOfE
  have na := asErr.noAs
  have hu := asErr.hasUn
  have mU := asErr.methodUnwrap
  obtain ⟨W1, hW1⟩ : ∃ W1, W1 = w.alloc (.cells #[.pointer (some ⟨9, 147, none⟩), .pointer (some a), .int .u64 150] 175) := ⟨_, rfl⟩
  have hb1 : Below w.heap.size w W1 := by rw [hW1]; exact below_new w _
  have hal : a.block < w.heap.size := World.block_lt_of_cell? w _ ha
  have htl : t.block < w.heap.size := World.block_lt_of_cell? w _ ht0
  have hpl : g < w.heap.size := World.block_lt_of_cell? w _ hp
  have ha1 : W1.cell? a = some (.pointer (some t)) := (hb1.cell hal).trans ha
  have hp1 : W1.cell? ⟨g, 1, none⟩ = some (.int .i64 e) := (hb1.cell (p := ⟨g, 1, none⟩) hpl).trans hp
  have hx1 : ∀ (i : Nat) (u : Value), #[Value.pointer (some ⟨9, 147, none⟩), .pointer (some a), .int .u64 150][i]? = some u → W1.cell? ⟨w.heap.size, i, none⟩ = some u := by
    intro i u hu
    rw [hW1, cell_of_row _ _ _ _ _ _ (heap_alloc_new w _)]
    exact hu
  have el := asErr.elemVP a t W1 ha1
  obtain ⟨W2, hW2⟩ : ∃ W2, W2 = W1.alloc (.cells #[.int .i64 e] 49) := ⟨_, rfl⟩
  have st := asErr.setE t ⟨W1.heap.size, 0, none⟩ e (.int .i64 n0) W2 (by rw [hW2, cell_of_row _ _ _ _ _ _ (heap_alloc_new W1 _)]; rfl)
    (by rw [hW2, World.cell?_alloc_lt _ _ t (Nat.lt_of_lt_of_le htl hb1.size), hW1, World.cell?_alloc_lt _ _ t htl]; exact ht0)
    (by rw [hW2, World.frozen?_alloc_old _ _ t (Nat.ne_of_lt (Nat.lt_of_lt_of_le htl hb1.size)), hW1, World.frozen?_alloc_old _ _ t (Nat.ne_of_lt htl)]; exact hf0)
  go_enter Tryz.func146, Tryz.ntmps146
  go_upto_region 1 with fail
  rw [← hW1]
  have hx0 := hx1 0 _ rfl; have hx2 := hx1 1 _ rfl; have hx3 := hx1 2 _ rfl
  have hb2 : Below w.heap.size w (W1.alloc (.cells #[.int .i64 e] 49)) := hb1.alloc hb1.size _
  subst hW2
  clear hx1 ha ht0 hp hf0 hW1
  refine wp_loop_rounds 2 ?_
  rw [rounds_succ]
  go_upto_region 13 with (go_at_call 202; refine (wire_unwrap g e _ hp1).mono ?_; rintro ev wu ⟨rfl, rfl⟩)
  go_upto_region 1 with fail
  rw [rounds_succ]
  go_wp2_with fail
  go_ret
  exact ⟨rfl, _, rfl, hb2⟩
set_option maxRecDepth 100000 in
set_option maxHeartbeats 4000000 in
theorem std_as (g : Nat) (e n0 : Int) (t : Addr) (w : World) (hg : w.cell? ⟨2, 0, none⟩ = some (.iface 204 (.agg #[.pointer (some ⟨9, 105, none⟩)]))) (hp : w.cell? ⟨g, 1, none⟩ = some (.int .i64 e)) (ht0 : w.cell? t = some (.int .i64 n0)) (hf0 : w.frozen? t = false) :
    Calls Tryz.prog 108 #[.iface 141 (.pointer (some ⟨g, 0, none⟩)), .iface 147 (.pointer (some t))] w fun ev w' => ev = .returned (.bool true) ∧ ∃ W, w' = W.setCell t (.int .i64 e) ∧ Below w.heap.size w W := by
  have h6 := @run_callFunc_extern Tryz.prog 143 _ (fun args => ReflectliteValue.unpack (args.getD 0 (.tuple #[]))) Tryz.func143 (by kernel_rfl) (by kernel_rfl) (by kernel_rfl) (by kernel_rfl)
  have h7 := @run_callFunc_extern Tryz.prog 144 _ (ReflectliteValue.methodAny (ReflectliteValue.valueError "reflectlite.Value.Type" 0) (fun t _ _ _ => ReflectliteType.toType t)) Tryz.func144 (by kernel_rfl) (by kernel_rfl) (by kernel_rfl) (by kernel_rfl)
  have h8 := @run_callFunc_extern Tryz.prog 145 _ (ReflectliteValue.method (ReflectliteValue.valueError "reflectlite.Value.IsNil" 0) ReflectliteValue.isNil) Tryz.func145 (by kernel_rfl) (by kernel_rfl) (by kernel_rfl) (by kernel_rfl)
  have h27 := @run_callFunc_extern Tryz.prog 196 _ (ReflectliteType.abiMethod fun t => do pure (.int .u8 (← Rtype.kind t))) Tryz.func196 (by kernel_rfl) (by kernel_rfl) (by kernel_rfl) (by kernel_rfl)
  have h37 := @run_callFunc_extern Tryz.prog 209 _ (ReflectliteType.method ReflectliteType.elem) Tryz.func209 (by kernel_rfl) (by kernel_rfl) (by kernel_rfl) (by kernel_rfl)
  have h38 := @run_callFunc_extern Tryz.prog 210 _ (ReflectliteType.relation "Implements" ReflectliteType.implements_) Tryz.func210 (by kernel_rfl) (by kernel_rfl) (by kernel_rfl) (by kernel_rfl)
  have f6 := asErr.valueOfP
  have f7 := asErr.typeP
  have mK := asErr.methodKind
  have mE := asErr.methodElem
  have mI := asErr.methodImplements
  have kP := asErr.kindP
  have kE := asErr.kindE
  have eP := asErr.elemP
  have iE := asErr.implementsE
  have hgl : 2 < w.heap.size := World.block_lt_of_cell? w _ hg
  have htl : t.block < w.heap.size := World.block_lt_of_cell? w _ ht0
  have hpl : g < w.heap.size := World.block_lt_of_cell? w _ hp
  go_enter Tryz.func108, Tryz.ntmps108
  go_upto_region 6 with fail
  obtain ⟨W1, hW1⟩ : ∃ W1, W1 = w.alloc (.cells #[.pointer (some t)] 147) := ⟨_, rfl⟩
  have hs1 : W1.heap.size = w.heap.size + 1 := by rw [hW1]; simp
  obtain ⟨W2, hW2⟩ : ∃ W2, W2 = W1.alloc (.cells #[.pointer (some ⟨9, 147, none⟩), .pointer (some ⟨w.heap.size, 0, none⟩), .int .u64 150] 175) := ⟨_, rfl⟩
  have hb1 : Below w.heap.size w W1 := by rw [hW1]; exact below_new w _
  have hb2 : Below w.heap.size w W2 := by rw [hW2]; exact hb1.alloc hb1.size _
  have hx1 : ∀ (i : Nat) (u : Value), #[Value.pointer (some ⟨9, 147, none⟩), .pointer (some ⟨w.heap.size, 0, none⟩), .int .u64 150][i]? = some u → W2.cell? ⟨w.heap.size + 1, i, none⟩ = some u := by
    intro i u hu
    rw [← hs1, hW2, cell_of_row _ _ _ _ _ _ (heap_alloc_new W1 _)]
    exact hu
  have ha2 : W2.cell? ⟨w.heap.size, 0, none⟩ = some (.pointer (some t)) := by
    rw [hW2, World.cell?_alloc_lt _ _ ⟨w.heap.size, 0, none⟩ (by rw [hs1]; show w.heap.size < _; omega), hW1, cell_of_row _ _ _ _ _ _ (heap_alloc_new w _)]; rfl
  have hp2 : W2.cell? ⟨g, 1, none⟩ = some (.int .i64 e) := (hb2.cell (p := ⟨g, 1, none⟩) hpl).trans hp
  have hg2 : W2.cell? ⟨2, 0, none⟩ = some (.iface 204 (.agg #[.pointer (some ⟨9, 105, none⟩)])) := (hb2.cell (p := ⟨2, 0, none⟩) hgl).trans hg
  have ht2 : W2.cell? t = some (.int .i64 n0) := (hb2.cell htl).trans ht0
  have hf2 : W2.frozen? t = false := by
    rw [hW2, World.frozen?_alloc_old _ _ t (by rw [hs1]; omega), hW1, World.frozen?_alloc_old _ _ t (Nat.ne_of_lt htl)]; exact hf0
  have n8 := asErr.isNilP ⟨w.heap.size, 0, none⟩ t W2 ha2
  first
    | rw [← hW1, ← hW2]
    | (rw [← hW1, hs1] at *; rw [← hW2])
  have hx0 := hx1 0 _ rfl; have hx2 := hx1 1 _ rfl; have hx3 := hx1 2 _ rfl
  clear hx1 hW1 hW2 hb1 hg ht0 hf0 hp hgl htl hpl f6 h6
  go_wp2_with (go_at_call 146; refine (std_as_loop g e n0 t ⟨w.heap.size, 0, none⟩ _ hp2 ha2 ht2 hf2).mono ?_; rintro ev w9 ⟨rfl, W9, rfl, hb9⟩)
  go_ret
  exact ⟨rfl, W9, rfl, hb2.trans (hb9.mono hb2.size)⟩
end Go.Proofs.YthoblbdkmlggbaaGreatDoor
