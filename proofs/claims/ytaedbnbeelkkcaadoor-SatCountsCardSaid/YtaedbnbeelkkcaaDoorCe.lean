/-
  Errs; WALKS of errors.Is and errors.As; plain.Code of nil, of a sentinel, of a *api.Fault; faulted.
-/
import Derived.Test.YtaedbnbeelkkcaaDoorProg
import Derived.Test.YtaedbnbeelkkcaaDoorBa
import Derived.LaidEql
import Derived.Stop.Asserts
import Derived.RowKitTokens
import Derived.Deep.DeepCutAuto
namespace Go.Proofs.YtaedbnbeelkkcaaDoor
open Go.RowKit
def errV (ea : Nat → Addr) (k : Nat) : Value := if k = 0 then .nilIface else .iface 143 (.pointer (some (ea k)))
/-- the package-level variable of an error's number -/
def gvar : Nat → Nat
  | 1 => 2
  | 2 => 0
  | 3 => 1
  | 4 => 3
  | 5 => 4
  | 6 => 5
  | 7 => 6
  | 8 => 7
  | _ => 8
structure Errs (w : World) (ea : Nat → Addr) (B : Nat) : Prop where
  var : ∀ k, 1 ≤ k → k ≤ 9 → w.cell? ⟨gvar k, 0, none⟩ = some (errV ea k)
  low : ∀ k, gvar k < B
  held : ∀ k, 1 ≤ k → k ≤ 9 → (ea k).block < B ∧ ∃ c t, w.heap[(ea k).block]? = some (.cells c t (0, 0))
  apart : ∀ j k, 1 ≤ j → j ≤ 9 → 1 ≤ k → k ≤ 9 → j ≠ k → ea j ≠ ea k
  et : w.cell? ⟨9, 0, none⟩ = some (.iface 108 (.agg #[.pointer (some ⟨10, 32, none⟩)]))
  etlow : 9 < B
theorem Errs.chg {S : Nat → Obj → Prop} {w w' : World} {ea : Nat → Addr} {B : Nat} (h : Errs w ea B) (hc : Chg S w w') (hS : ∀ k o, k < B → ¬ S k o) : Errs w' ea B := by
  have key : ∀ g v, g < B → w.cell? ⟨g, 0, none⟩ = some v → w'.cell? ⟨g, 0, none⟩ = some v := fun g v hg hv => by
    have hlt := World.block_lt_of_cell? w _ hv
    have ho : w.heap[g]? = some (w.heap[g]'hlt) := Array.getElem?_eq_getElem hlt
    have := hc.keep _ _ ho (hS _ _ hg)
    exact (World.cell?_of_block (a := ⟨g, 0, none⟩) (this.trans ho.symm)).trans hv
  refine ⟨fun k h1 h2 => key _ _ (h.low k) (h.var k h1 h2), h.low, fun k h1 h2 => ?_, h.apart, key _ _ h.etlow h.et, h.etlow⟩
  obtain ⟨hl, c, t, hh⟩ := h.held k h1 h2
  exact ⟨hl, c, t, hc.keep _ _ hh (hS _ _ hl)⟩
theorem Errs.below {w w' : World} {ea : Nat → Addr} {B : Nat} (h : Errs w ea B) (hb : Below B w w') : Errs w' ea B :=
  h.chg (S := fun k _ => B ≤ k) (.of_below hb fun _ _ hk _ => hk) (fun k _ hk h => by omega)

end Go.Proofs.YtaedbnbeelkkcaaDoor
namespace Go.Proofs.YtaedbnbeelkkcaaDoor
open Go.RowKit Go.Extern.Stop Go.Stop Go.Extern

theorem erTypeOf (v : Value) (w : World) : (Extern.ReflectliteType.typeOf #[.iface 143 v]).run Tryd.prog w = .ok (.iface 108 (.agg #[.pointer (some ⟨10, 143, none⟩)])) w := by kernel_rfl
theorem erComparable (w : World) : ((Extern.ReflectliteType.method fun t => do Extern.Rtype.noPackHeld "Comparable" t; (fun a => Value.bool a.comparable) <$> typeInfo t) #[.agg #[.pointer (some ⟨10, 143, none⟩)]]).run Tryd.prog w = .ok (.bool true) w := by kernel_rfl
theorem erMethodComparable (v : Value) (w : World) : (Go.method 275 108 v "Comparable").run Tryd.prog w = .ok (103, v) w := by kernel_rfl
theorem erComp : (Tryd.prog.info? 143).map (·.comparable) = some true := by kernel_rfl
theorem erSize : (Tryd.prog.info? 163).map (·.size) = some 1 := by kernel_rfl
theorem noIsE (v : Value) (xT : TypeId) (w : World) : (Instr.typeAssert (.iface 143 v) xT 119 true).run Tryd.prog w = .ok (.tuple #[.nilIface, .bool false]) w := run_typeAssert_lacksB Tryd.underlying119 (by kernel_rfl) (by kernel_rfl) v xT w
theorem noAsE (v : Value) (xT : TypeId) (w : World) : (Instr.typeAssert (.iface 143 v) xT 112 true).run Tryd.prog w = .ok (.tuple #[.nilIface, .bool false]) w := run_typeAssert_lacksB Tryd.underlying112 (by kernel_rfl) (by kernel_rfl) v xT w
theorem noUnwrapE (v : Value) (xT : TypeId) (w : World) : (Instr.typeAssert (.iface 143 v) xT 115 true).run Tryd.prog w = .ok (.tuple #[.nilIface, .bool false]) w := run_typeAssert_lacksB Tryd.underlying115 (by kernel_rfl) (by kernel_rfl) v xT w
theorem noUnwrapsE (v : Value) (xT : TypeId) (w : World) : (Instr.typeAssert (.iface 143 v) xT 117 true).run Tryd.prog w = .ok (.tuple #[.nilIface, .bool false]) w := run_typeAssert_lacksB Tryd.underlying117 (by kernel_rfl) (by kernel_rfl) v xT w
theorem noIsF (v : Value) (xT : TypeId) (w : World) : (Instr.typeAssert (.iface 61 v) xT 119 true).run Tryd.prog w = .ok (.tuple #[.nilIface, .bool false]) w := run_typeAssert_lacksB Tryd.underlying119 (by kernel_rfl) (by kernel_rfl) v xT w
theorem hasUnwrapF (v : Value) (xT : TypeId) (w : World) : (Instr.typeAssert (.iface 61 v) xT 115 true).run Tryd.prog w = .ok (.tuple #[.iface 61 v, .bool true]) w := run_typeAssert_hasB Tryd.underlying115 (by kernel_rfl) v xT w
theorem methodUnwrapF (v : Value) (w : World) : (Go.method 275 61 v "Unwrap").run Tryd.prog w = .ok (97, v) w := by kernel_rfl

theorem is_same (a : Addr) (w : World) :
    Calls Tryd.prog 39 #[.iface 143 (.pointer (some a)), .iface 143 (.pointer (some a))] w fun e w' => e = .returned (.bool true) ∧ w = w' := by
  obtain ⟨i, hi, hcmp⟩ := Option.map_eq_some_iff.1 erComp
  obtain ⟨j, hj, hjs⟩ := Option.map_eq_some_iff.1 erSize
  have h8 := @run_callFunc_extern Tryd.prog 52 _ Extern.ReflectliteType.typeOf Tryd.func52 (by kernel_rfl) (by kernel_rfl) (by kernel_rfl) (by kernel_rfl)
  have h32 := @run_callFunc_extern Tryd.prog 103 _ (Extern.ReflectliteType.method fun t => do Extern.Rtype.noPackHeld "Comparable" t; pure (.bool (← typeInfo t).comparable)) Tryd.func103 (by kernel_rfl) (by kernel_rfl) (by kernel_rfl) (by kernel_rfl)
  have tT := erTypeOf
  have cT := erComparable
  have mR := erMethodComparable
  have heq := run_eql_iface_ptr_same (P := Tryd.prog) w a Tryd.underlying32 Tryd.underlying143 hi hcmp hj
  go_enter Tryd.func39, Tryd.ntmps39
  go_wp2
  refine wp_loop_rounds 1 ?_
  rw [rounds_succ]
  go_wp2
  go_ret
  exact ⟨rfl, rfl⟩
theorem is_other (a b : Addr) (ca cb : Array Value) (ta tb : TypeId) (w : World) (hne : a ≠ b) (ha : w.heap[a.block]? = some (.cells ca ta (0, 0))) (hb : w.heap[b.block]? = some (.cells cb tb (0, 0))) :
    Calls Tryd.prog 39 #[.iface 143 (.pointer (some a)), .iface 143 (.pointer (some b))] w fun e w' => e = .returned (.bool false) ∧ w = w' := by
  obtain ⟨i, hi, hcmp⟩ := Option.map_eq_some_iff.1 erComp
  obtain ⟨j, hj, hjs⟩ := Option.map_eq_some_iff.1 erSize
  have h8 := @run_callFunc_extern Tryd.prog 52 _ Extern.ReflectliteType.typeOf Tryd.func52 (by kernel_rfl) (by kernel_rfl) (by kernel_rfl) (by kernel_rfl)
  have h32 := @run_callFunc_extern Tryd.prog 103 _ (Extern.ReflectliteType.method fun t => do Extern.Rtype.noPackHeld "Comparable" t; pure (.bool (← typeInfo t).comparable)) Tryd.func103 (by kernel_rfl) (by kernel_rfl) (by kernel_rfl) (by kernel_rfl)
  have tT := erTypeOf
  have cT := erComparable
  have mR := erMethodComparable
  have nE := noIsE
  have uE := noUnwrapE
  have vE := noUnwrapsE
  have heq := run_eql_iface_ptr_other (P := Tryd.prog) w Tryd.underlying32 Tryd.underlying143 hi hcmp hj (by rw [hjs]; decide) hne ha hb
  go_enter Tryd.func39, Tryd.ntmps39
  go_wp2
  refine wp_loop_rounds 1 ?_
  rw [rounds_succ]
  go_wp2
  go_ret
  exact ⟨rfl, rfl⟩
end Go.Proofs.YtaedbnbeelkkcaaDoor
namespace Go.Proofs.YtaedbnbeelkkcaaDoor
open Go.RowKit Go.Extern.Stop Go.Stop Go.Extern

theorem is_fault_same (pb : Nat) (b : Addr) (w : World) (h1 : w.cell? ⟨pb, 1, none⟩ = some (.iface 143 (.pointer (some b)))) :
    Calls Tryd.prog 39 #[.iface 61 (.pointer (some ⟨pb, 0, none⟩)), .iface 143 (.pointer (some b))] w fun e w' => e = .returned (.bool true) ∧ w = w' := by
  obtain ⟨i, hi, hcmp⟩ := Option.map_eq_some_iff.1 erComp
  obtain ⟨j, hj, hjs⟩ := Option.map_eq_some_iff.1 erSize
  have h8 := @run_callFunc_extern Tryd.prog 52 _ Extern.ReflectliteType.typeOf Tryd.func52 (by kernel_rfl) (by kernel_rfl) (by kernel_rfl) (by kernel_rfl)
  have h32 := @run_callFunc_extern Tryd.prog 103 _ (Extern.ReflectliteType.method fun t => do Extern.Rtype.noPackHeld "Comparable" t; pure (.bool (← typeInfo t).comparable)) Tryd.func103 (by kernel_rfl) (by kernel_rfl) (by kernel_rfl) (by kernel_rfl)
  have tT := erTypeOf
  have cT := erComparable
  have mR := erMethodComparable
  have nW := noIsF
  have uW := hasUnwrapF
  have mU := methodUnwrapF
  have heq := run_eql_iface_ptr_same (P := Tryd.prog) w b Tryd.underlying32 Tryd.underlying143 hi hcmp hj
  have hty := run_eql_iface_types (P := Tryd.prog) 61 143 (.pointer (some ⟨pb, 0, none⟩)) (.pointer (some b)) Tryd.underlying32 (by decide) w
  go_enter Tryd.func39, Tryd.ntmps39
  go_wp2
  refine wp_loop_rounds 2 ?_
  rw [rounds_succ]
  go_wp2
  rw [rounds_succ]
  go_wp2
  go_ret
  exact ⟨rfl, rfl⟩
theorem is_fault_other (pb : Nat) (a b : Addr) (ca cb : Array Value) (ta tb : TypeId) (w : World) (h1 : w.cell? ⟨pb, 1, none⟩ = some (.iface 143 (.pointer (some a)))) (hne : a ≠ b) (ha : w.heap[a.block]? = some (.cells ca ta (0, 0))) (hb : w.heap[b.block]? = some (.cells cb tb (0, 0))) :
    Calls Tryd.prog 39 #[.iface 61 (.pointer (some ⟨pb, 0, none⟩)), .iface 143 (.pointer (some b))] w fun e w' => e = .returned (.bool false) ∧ w = w' := by
  obtain ⟨i, hi, hcmp⟩ := Option.map_eq_some_iff.1 erComp
  obtain ⟨j, hj, hjs⟩ := Option.map_eq_some_iff.1 erSize
  have h8 := @run_callFunc_extern Tryd.prog 52 _ Extern.ReflectliteType.typeOf Tryd.func52 (by kernel_rfl) (by kernel_rfl) (by kernel_rfl) (by kernel_rfl)
  have h32 := @run_callFunc_extern Tryd.prog 103 _ (Extern.ReflectliteType.method fun t => do Extern.Rtype.noPackHeld "Comparable" t; pure (.bool (← typeInfo t).comparable)) Tryd.func103 (by kernel_rfl) (by kernel_rfl) (by kernel_rfl) (by kernel_rfl)
  have tT := erTypeOf
  have cT := erComparable
  have mR := erMethodComparable
  have nE := noIsE
  have uE := noUnwrapE
  have vE := noUnwrapsE
  have nW := noIsF
  have uW := hasUnwrapF
  have mU := methodUnwrapF
  have heq := run_eql_iface_ptr_other (P := Tryd.prog) w Tryd.underlying32 Tryd.underlying143 hi hcmp hj (by rw [hjs]; decide) hne ha hb
  have hty := run_eql_iface_types (P := Tryd.prog) 61 143 (.pointer (some ⟨pb, 0, none⟩)) (.pointer (some b)) Tryd.underlying32 (by decide) w
  go_enter Tryd.func39, Tryd.ntmps39
  go_wp2
  refine wp_loop_rounds 2 ?_
  rw [rounds_succ]
  go_wp2
  rw [rounds_succ]
  go_wp2
  go_ret
  exact ⟨rfl, rfl⟩

/-! ### errors.As, the target a **api.Fault -/
theorem asValueOf (t : Addr) (w : World) : (ReflectliteValue.unpack (.iface 82 (.pointer (some t)))).run Tryd.prog w
    = .ok (.agg #[.pointer (some ⟨10, 82, none⟩), .pointer (some ⟨w.heap.size, 0, none⟩), .int .u64 150]) (w.alloc (.cells #[.pointer (some t)] 82)) := by kernel_rfl
theorem asType (a : Addr) (w : World) : (ReflectliteValue.methodAny (ReflectliteValue.valueError "reflectlite.Value.Type" 0) (fun t _ _ _ => ReflectliteType.toType t) #[.agg #[.pointer (some ⟨10, 82, none⟩), .pointer (some a), .int .u64 150]]).run Tryd.prog w
    = .ok (.iface 108 (.agg #[.pointer (some ⟨10, 82, none⟩)])) w := by kernel_rfl
theorem asMethodKind (h : Value) (w : World) : (Go.method 275 108 (.agg #[h]) "Kind").run Tryd.prog w = .ok (93, h) w := by kernel_rfl
theorem asKindPP (w : World) : ((ReflectliteType.abiMethod fun t => (fun a : Nat => Value.int IntKind.u8 (a : Int)) <$> Rtype.kind t) #[.pointer (some ⟨10, 82, none⟩)]).run Tryd.prog w = .ok (.int .u8 22) w := by kernel_rfl
theorem asKindP (w : World) : ((ReflectliteType.abiMethod fun t => (fun a : Nat => Value.int IntKind.u8 (a : Int)) <$> Rtype.kind t) #[.pointer (some ⟨10, 61, none⟩)]).run Tryd.prog w = .ok (.int .u8 22) w := by kernel_rfl
theorem rlm (z : Sem Value) (f : TypeId → Addr → Nat → Nat → Sem Value) (v : Value) :
    ReflectliteValue.method z f #[v] = (do match ← ReflectliteValue.parts v with | none => z | some (t, a, fl) => f t a fl (fl % 32)) := rfl
theorem asPartsPP (a : Addr) (w : World) : (ReflectliteValue.parts (.agg #[.pointer (some ⟨10, 82, none⟩), .pointer (some a), .int .u64 150])).run Tryd.prog w = .ok (some (82, a, 150)) w := by kernel_rfl
theorem asIsNil (a p : Addr) (W : World) (ha : W.cell? a = some (.pointer (some p))) :
    (ReflectliteValue.method (ReflectliteValue.valueError "reflectlite.Value.IsNil" 0) ReflectliteValue.isNil #[.agg #[.pointer (some ⟨10, 82, none⟩), .pointer (some a), .int .u64 150]]).run Tryd.prog W = .ok (.bool false) W := by
  rw [rlm]
  simp only [Sem.run_bind, asPartsPP, Result.andThen]
  simp [ReflectliteValue.isNil, loadVar, isAgg, underlying, Tryd.underlying82, ha, Result.andThen]
theorem asMethodElem (h : Value) (w : World) : (Go.method 275 108 (.agg #[h]) "Elem").run Tryd.prog w = .ok (104, .agg #[h]) w := by kernel_rfl
theorem asMethodImplements (h : Value) (w : World) : (Go.method 275 108 (.agg #[h]) "Implements").run Tryd.prog w = .ok (105, .agg #[h]) w := by kernel_rfl
theorem asMethodAssignableTo (h : Value) (w : World) : (Go.method 275 108 (.agg #[h]) "AssignableTo").run Tryd.prog w = .ok (102, .agg #[h]) w := by kernel_rfl
theorem asElem (w : World) : (ReflectliteType.method ReflectliteType.elem #[.agg #[.pointer (some ⟨10, 82, none⟩)]]).run Tryd.prog w = .ok (.iface 108 (.agg #[.pointer (some ⟨10, 61, none⟩)])) w := by kernel_rfl
theorem asImplements (w : World) : (ReflectliteType.relation "Implements" ReflectliteType.implements_ #[.agg #[.pointer (some ⟨10, 61, none⟩)], .iface 108 (.agg #[.pointer (some ⟨10, 32, none⟩)])]).run Tryd.prog w = .ok (.bool true) w := by kernel_rfl
theorem asTypeOfF (v : Value) (w : World) : (ReflectliteType.typeOf #[.iface 61 v]).run Tryd.prog w = .ok (.iface 108 (.agg #[.pointer (some ⟨10, 61, none⟩)])) w := by kernel_rfl
theorem asAssignableF (w : World) : (ReflectliteType.relation "AssignableTo" ReflectliteType.assignableTo #[.agg #[.pointer (some ⟨10, 61, none⟩)], .iface 108 (.agg #[.pointer (some ⟨10, 61, none⟩)])]).run Tryd.prog w = .ok (.bool true) w := by kernel_rfl
theorem asAssignableE (w : World) : (ReflectliteType.relation "AssignableTo" ReflectliteType.assignableTo #[.agg #[.pointer (some ⟨10, 143, none⟩)], .iface 108 (.agg #[.pointer (some ⟨10, 61, none⟩)])]).run Tryd.prog w = .ok (.bool false) w := by kernel_rfl
theorem asValueOfF (e : Addr) (w : World) : (ReflectliteValue.unpack (.iface 61 (.pointer (some e)))).run Tryd.prog w
    = .ok (.agg #[.pointer (some ⟨10, 61, none⟩), .pointer (some ⟨w.heap.size, 0, none⟩), .int .u64 150]) (w.alloc (.cells #[.pointer (some e)] 61)) := by kernel_rfl
theorem asElemOf (w : World) : (Rtype.elem? 82).run Tryd.prog w = .ok (some 61) w := by kernel_rfl
theorem asMk (p : Addr) (w : World) : (ReflectliteValue.mk 61 p ReflectliteValue.flagAddr).run Tryd.prog w = .ok (.agg #[.pointer (some ⟨10, 61, none⟩), .pointer (some p), .int .u64 406]) w := by kernel_rfl
theorem asElemV (a p : Addr) (W : World) (ha : W.cell? a = some (.pointer (some p))) :
    (ReflectliteValue.method (ReflectliteValue.valueError "reflectlite.Value.Elem" 0) ReflectliteValue.elem #[.agg #[.pointer (some ⟨10, 82, none⟩), .pointer (some a), .int .u64 150]]).run Tryd.prog W
      = .ok (.agg #[.pointer (some ⟨10, 61, none⟩), .pointer (some p), .int .u64 406]) W := by
  rw [rlm]
  simp only [Sem.run_bind, asPartsPP, Result.andThen]
  simp [ReflectliteValue.elem, loadVar, isAgg, underlying, Tryd.underlying82, ha, Result.andThen, asElemOf, asMk]
theorem asPartsA (a : Addr) (w : World) : (ReflectliteValue.parts (.agg #[.pointer (some ⟨10, 61, none⟩), .pointer (some a), .int .u64 406])).run Tryd.prog w = .ok (some (61, a, 406)) w := by kernel_rfl
theorem asPartsP (a : Addr) (w : World) : (ReflectliteValue.parts (.agg #[.pointer (some ⟨10, 61, none⟩), .pointer (some a), .int .u64 150])).run Tryd.prog w = .ok (some (61, a, 150)) w := by kernel_rfl
theorem asDirect (w : World) : (Rtype.directlyAssignable 61 61).run Tryd.prog w = .ok true w := by kernel_rfl
theorem asSize (w : World) : (sizeOf 61).run Tryd.prog w = .ok 1 w := by kernel_rfl
end Go.Proofs.YtaedbnbeelkkcaaDoor
namespace Go.Proofs.YtaedbnbeelkkcaaDoor
open Go.RowKit Go.Extern.Stop Go.Stop Go.Extern

theorem rls (v x : Value) : ∃ (rest : Option (TypeId × Addr × Nat) → Option (TypeId × Addr × Nat) → Sem Value) (B : TypeId → Addr → Nat → TypeId → Addr → Sem Value) (E : TypeId → Addr → Nat → TypeId → Addr → Value → Sem Value),
    ReflectliteValue.set #[v, x] = (ReflectliteValue.parts v >>= fun p => ReflectliteValue.parts x >>= fun q => rest p q) ∧
      ∀ dst a fl src b z, rest (some (dst, a, fl)) (some (src, b, z)) =
        (if (fl / ReflectliteValue.flagAddr % 2 == 0) = true then B dst a fl src b else
          (loadVar src b >>= fun val => Rtype.directlyAssignable dst src >>= fun c => if c = true then (storeVar dst a val >>= fun _ => pure (.tuple #[])) else E dst a fl src b val)) :=
  ⟨_, _, _, rfl, fun _ _ _ _ _ _ => rfl⟩
theorem asSet (ta b e : Addr) (old : Value) (W : World) (hb : W.cell? b = some (.pointer (some e))) (ht : W.cell? ta = some old) (hf : W.frozen? ta = false) :
    (ReflectliteValue.set #[.agg #[.pointer (some ⟨10, 61, none⟩), .pointer (some ta), .int .u64 406], .agg #[.pointer (some ⟨10, 61, none⟩), .pointer (some b), .int .u64 150]]).run Tryd.prog W
      = .ok (.tuple #[]) (W.setCell ta (.pointer (some e))) := by
  obtain ⟨rest, B, E, hE, hr⟩ := rls (.agg #[.pointer (some ⟨10, 61, none⟩), .pointer (some ta), .int .u64 406]) (.agg #[.pointer (some ⟨10, 61, none⟩), .pointer (some b), .int .u64 150])
  rw [hE]
  simp only [Sem.run_bind, asPartsA, asPartsP, Result.andThen, hr]
  simp [ReflectliteValue.flagAddr, loadVar, isAgg, underlying, Tryd.underlying61, hb, Result.andThen, asDirect, storeVar, Value.cells, storeCells, Addr.add]
  rw [run_store Tryd.prog W ta _ _ (by rfl)]
  simp [ht, hf]
theorem as_nil (t : Value) (w : World) :
    Calls Tryd.prog 38 #[.nilIface, t] w fun e w' => e = .returned (.bool false) ∧ w = w' := by
  go_enter Tryd.func38, Tryd.ntmps38
  go_wp2
  go_ret
  exact ⟨rfl, rfl⟩
set_option maxHeartbeats 4000000 in
theorem as_hit (e t : Addr) (old : Value) (w : World) (hg : w.cell? ⟨9, 0, none⟩ = some (.iface 108 (.agg #[.pointer (some ⟨10, 32, none⟩)]))) (ht0 : w.cell? t = some old) (hf0 : w.frozen? t = false) :
    Calls Tryd.prog 38 #[.iface 61 (.pointer (some e)), .iface 82 (.pointer (some t))] w fun ev w' => ev = .returned (.bool true) ∧ w' = ((((w.alloc (.cells #[.pointer (some t)] 82)).alloc (.cells #[.pointer (some ⟨10, 82, none⟩), .pointer (some ⟨w.heap.size, 0, none⟩), .int .u64 150] 91)).alloc (.cells #[.pointer (some ⟨10, 82, none⟩), .pointer (some ⟨w.heap.size, 0, none⟩), .int .u64 150] 91)).alloc (.cells #[.pointer (some e)] 61)).setCell t (.pointer (some e)) := by
  have h6 := @run_callFunc_extern Tryd.prog 48 _ (fun args => ReflectliteValue.unpack (args.getD 0 (.tuple #[]))) Tryd.func48 (by kernel_rfl) (by kernel_rfl) (by kernel_rfl) (by kernel_rfl)
  have h7 := @run_callFunc_extern Tryd.prog 49 _ (ReflectliteValue.methodAny (ReflectliteValue.valueError "reflectlite.Value.Type" 0) (fun t _ _ _ => ReflectliteType.toType t)) Tryd.func49 (by kernel_rfl) (by kernel_rfl) (by kernel_rfl) (by kernel_rfl)
  have h8 := @run_callFunc_extern Tryd.prog 50 _ (ReflectliteValue.method (ReflectliteValue.valueError "reflectlite.Value.IsNil" 0) ReflectliteValue.isNil) Tryd.func50 (by kernel_rfl) (by kernel_rfl) (by kernel_rfl) (by kernel_rfl)
  have h27 := @run_callFunc_extern Tryd.prog 93 _ (ReflectliteType.abiMethod fun t => do pure (.int .u8 (← Rtype.kind t))) Tryd.func93 (by kernel_rfl) (by kernel_rfl) (by kernel_rfl) (by kernel_rfl)
  have h37 := @run_callFunc_extern Tryd.prog 104 _ (ReflectliteType.method ReflectliteType.elem) Tryd.func104 (by kernel_rfl) (by kernel_rfl) (by kernel_rfl) (by kernel_rfl)
  have h38 := @run_callFunc_extern Tryd.prog 105 _ (ReflectliteType.relation "Implements" ReflectliteType.implements_) Tryd.func105 (by kernel_rfl) (by kernel_rfl) (by kernel_rfl) (by kernel_rfl)
  have h10 := @run_callFunc_extern Tryd.prog 52 _ ReflectliteType.typeOf Tryd.func52 (by kernel_rfl) (by kernel_rfl) (by kernel_rfl) (by kernel_rfl)
  have h35 := @run_callFunc_extern Tryd.prog 102 _ (ReflectliteType.relation "AssignableTo" ReflectliteType.assignableTo) Tryd.func102 (by kernel_rfl) (by kernel_rfl) (by kernel_rfl) (by kernel_rfl)
  have h11 := @run_callFunc_extern Tryd.prog 59 _ (ReflectliteValue.method (ReflectliteValue.valueError "reflectlite.Value.Elem" 0) ReflectliteValue.elem) Tryd.func59 (by kernel_rfl) (by kernel_rfl) (by kernel_rfl) (by kernel_rfl)
  have h12 := @run_callFunc_extern Tryd.prog 60 _ ReflectliteValue.set Tryd.func60 (by kernel_rfl) (by kernel_rfl) (by kernel_rfl) (by kernel_rfl)
  have tO := asTypeOfF
  have mA := asMethodAssignableTo
  have a25 := asAssignableF
  have v25 := asValueOfF
  have f6 := asValueOf
  have f7 := asType
  have mK := asMethodKind
  have mE := asMethodElem
  have mI := asMethodImplements
  have k27 := asKindPP
  have k25 := asKindP
  have e27 := asElem
  have i25 := asImplements
  have n8 := asIsNil ⟨w.heap.size, 0, none⟩ t ((w.alloc (.cells #[.pointer (some t)] 82)).alloc (.cells #[.pointer (some ⟨10, 82, none⟩), .pointer (some ⟨w.heap.size, 0, none⟩), .int .u64 150] 91)) (by simp)
  have hlt : 9 < w.heap.size := World.block_lt_of_cell? w _ hg
  have hg2 : ((w.alloc (.cells #[.pointer (some t)] 82)).alloc (.cells #[.pointer (some ⟨10, 82, none⟩), .pointer (some ⟨w.heap.size, 0, none⟩), .int .u64 150] 91)).cell? ⟨9, 0, none⟩ = some (.iface 108 (.agg #[.pointer (some ⟨10, 32, none⟩)])) := by
    rw [World.cell?_alloc_lt _ _ ⟨9, 0, none⟩ (by simp; omega), World.cell?_alloc_lt _ _ ⟨9, 0, none⟩ hlt]; exact hg
  have htl : t.block < w.heap.size := World.block_lt_of_cell? w _ ht0
  have el := asElemV ⟨w.heap.size, 0, none⟩ t (((w.alloc (.cells #[.pointer (some t)] 82)).alloc (.cells #[.pointer (some ⟨10, 82, none⟩), .pointer (some ⟨w.heap.size, 0, none⟩), .int .u64 150] 91)).alloc (.cells #[.pointer (some ⟨10, 82, none⟩), .pointer (some ⟨w.heap.size, 0, none⟩), .int .u64 150] 91)) (by rw [World.cell?_alloc_lt _ _ ⟨w.heap.size, 0, none⟩ (by simp; omega)]; simp)
  have st := asSet t ⟨w.heap.size + 1 + 1 + 1, 0, none⟩ e old ((((w.alloc (.cells #[.pointer (some t)] 82)).alloc (.cells #[.pointer (some ⟨10, 82, none⟩), .pointer (some ⟨w.heap.size, 0, none⟩), .int .u64 150] 91)).alloc (.cells #[.pointer (some ⟨10, 82, none⟩), .pointer (some ⟨w.heap.size, 0, none⟩), .int .u64 150] 91)).alloc (.cells #[.pointer (some e)] 61))
    (by rw [World.cell?_alloc_at _ _ _ _ (by simp)]; rfl)
    (by rw [World.cell?_alloc_lt _ _ t (by simp; omega), World.cell?_alloc_lt _ _ t (by simp; omega), World.cell?_alloc_lt _ _ t (by simp; omega), World.cell?_alloc_lt _ _ t htl]; exact ht0)
    (by rw [World.frozen?_alloc_old _ _ t (by simp; omega), World.frozen?_alloc_old _ _ t (by simp; omega), World.frozen?_alloc_old _ _ t (by simp; omega), World.frozen?_alloc_old _ _ t (Nat.ne_of_lt htl)]; exact hf0)
  go_enter Tryd.func38, Tryd.ntmps38
  go_wp2
  refine wp_loop_rounds 1 ?_
  rw [rounds_succ]
  go_wp2
  go_ret
  exact ⟨rfl, rfl⟩
set_option maxHeartbeats 4000000 in
theorem as_miss (e t : Addr) (w : World) (hg : w.cell? ⟨9, 0, none⟩ = some (.iface 108 (.agg #[.pointer (some ⟨10, 32, none⟩)]))) :
    Calls Tryd.prog 38 #[.iface 143 (.pointer (some e)), .iface 82 (.pointer (some t))] w fun ev w' => ev = .returned (.bool false) ∧ Below w.heap.size w w' := by
  have h6 := @run_callFunc_extern Tryd.prog 48 _ (fun args => ReflectliteValue.unpack (args.getD 0 (.tuple #[]))) Tryd.func48 (by kernel_rfl) (by kernel_rfl) (by kernel_rfl) (by kernel_rfl)
  have h7 := @run_callFunc_extern Tryd.prog 49 _ (ReflectliteValue.methodAny (ReflectliteValue.valueError "reflectlite.Value.Type" 0) (fun t _ _ _ => ReflectliteType.toType t)) Tryd.func49 (by kernel_rfl) (by kernel_rfl) (by kernel_rfl) (by kernel_rfl)
  have h8 := @run_callFunc_extern Tryd.prog 50 _ (ReflectliteValue.method (ReflectliteValue.valueError "reflectlite.Value.IsNil" 0) ReflectliteValue.isNil) Tryd.func50 (by kernel_rfl) (by kernel_rfl) (by kernel_rfl) (by kernel_rfl)
  have h27 := @run_callFunc_extern Tryd.prog 93 _ (ReflectliteType.abiMethod fun t => do pure (.int .u8 (← Rtype.kind t))) Tryd.func93 (by kernel_rfl) (by kernel_rfl) (by kernel_rfl) (by kernel_rfl)
  have h37 := @run_callFunc_extern Tryd.prog 104 _ (ReflectliteType.method ReflectliteType.elem) Tryd.func104 (by kernel_rfl) (by kernel_rfl) (by kernel_rfl) (by kernel_rfl)
  have h38 := @run_callFunc_extern Tryd.prog 105 _ (ReflectliteType.relation "Implements" ReflectliteType.implements_) Tryd.func105 (by kernel_rfl) (by kernel_rfl) (by kernel_rfl) (by kernel_rfl)
  have h10 := @run_callFunc_extern Tryd.prog 52 _ ReflectliteType.typeOf Tryd.func52 (by kernel_rfl) (by kernel_rfl) (by kernel_rfl) (by kernel_rfl)
  have h35 := @run_callFunc_extern Tryd.prog 102 _ (ReflectliteType.relation "AssignableTo" ReflectliteType.assignableTo) Tryd.func102 (by kernel_rfl) (by kernel_rfl) (by kernel_rfl) (by kernel_rfl)
  have tO := erTypeOf
  have mA := asMethodAssignableTo
  have a25 := asAssignableE
  have f6 := asValueOf
  have f7 := asType
  have mK := asMethodKind
  have mE := asMethodElem
  have mI := asMethodImplements
  have k27 := asKindPP
  have k25 := asKindP
  have e27 := asElem
  have i25 := asImplements
  have nA := noAsE
  have uE := noUnwrapE
  have vE := noUnwrapsE
  have n8 := asIsNil ⟨w.heap.size, 0, none⟩ t ((w.alloc (.cells #[.pointer (some t)] 82)).alloc (.cells #[.pointer (some ⟨10, 82, none⟩), .pointer (some ⟨w.heap.size, 0, none⟩), .int .u64 150] 91)) (by simp)
  have hlt : 9 < w.heap.size := World.block_lt_of_cell? w _ hg
  have hg2 : ((w.alloc (.cells #[.pointer (some t)] 82)).alloc (.cells #[.pointer (some ⟨10, 82, none⟩), .pointer (some ⟨w.heap.size, 0, none⟩), .int .u64 150] 91)).cell? ⟨9, 0, none⟩ = some (.iface 108 (.agg #[.pointer (some ⟨10, 32, none⟩)])) := by
    rw [World.cell?_alloc_lt _ _ ⟨9, 0, none⟩ (by simp; omega), World.cell?_alloc_lt _ _ ⟨9, 0, none⟩ hlt]; exact hg
  go_enter Tryd.func38, Tryd.ntmps38
  go_wp2
  refine wp_loop_rounds 1 ?_
  rw [rounds_succ]
  go_wp2
  go_ret
  exact ⟨rfl, ((((Below.refl _ w).alloc (Nat.le_refl _) _).alloc (by simp) _).alloc (by simp; omega) _)⟩
end Go.Proofs.YtaedbnbeelkkcaaDoor
namespace Go.Proofs.YtaedbnbeelkkcaaDoor
open Go.RowKit

theorem code_nil (w : World) : Calls Tryd.prog 23 #[.nilIface] w fun e w' => e = .returned (.tuple #[.int .i64 0, .int .i64 (-1)]) ∧ w = w' := by
  go_enter Tryd.func23, Tryd.ntmps23
  go_wp2
  go_ret2
  exact ⟨rfl, rfl⟩
theorem is_sent {w : World} {ea : Nat → Addr} {B : Nat} (h : Errs w ea B) {j k : Nat} (hj : 1 ≤ j) (hj9 : j ≤ 9) (hk : 1 ≤ k) (hk9 : k ≤ 9) :
    Calls Tryd.prog 39 #[errV ea j, errV ea k] w fun e w' => e = .returned (.bool (decide (j = k))) ∧ w = w' := by
  unfold errV
  rw [if_neg (by omega), if_neg (by omega)]
  by_cases hjk : j = k
  · subst hjk
    rw [decide_eq_true rfl]
    exact is_same _ w
  · rw [decide_eq_false hjk]
    obtain ⟨_, c, t, hc⟩ := h.held j hj hj9
    obtain ⟨_, c', t', hc'⟩ := h.held k hk hk9
    exact is_other _ _ c c' t t' w (h.apart j k hj hj9 hk hk9 hjk) hc hc'
def CPost (w : World) (n at_ : Int) (e : Ending) (w' : World) : Prop := e = .returned (.tuple #[.int .i64 n, .int .i64 at_]) ∧ Below w.heap.size w w'
set_option maxHeartbeats 800000 in
theorem code_sent {w : World} {ea : Nat → Addr} {B : Nat} (h : Errs w ea B) (hB : B ≤ w.heap.size) {k : Nat} (hk : 1 ≤ k) (hk9 : k ≤ 9) :
    Calls Tryd.prog 23 #[errV ea k] w (CPost w k (-1)) := by
  have he : errV ea k = .iface 143 (.pointer (some (ea k))) := by unfold errV; rw [if_neg (by omega)]
  rw [he]
  have H := Lib.hid h
  have HE := Lib.hid he
  have HB := Lib.hid hB
  have A1 := Lib.hid (as_miss (ea k) ⟨w.heap.size, 0, none⟩ (w.alloc (.cells #[.pointer none] 61)) (by rw [World.cell?_alloc_lt _ _ ⟨_, 0, none⟩ (Nat.lt_of_lt_of_le h.etlow hB)]; exact h.et))
  clear h he hB
  go_enter Tryd.func23, Tryd.ntmps23
  go_wp2_with fail
  refine A1.out.mono ?_
  rintro e w1 ⟨rfl, hb1⟩
  have hbw : Below w.heap.size w w1 := ((Below.refl _ w).alloc (Nat.le_refl _) _).trans (hb1.mono (by simp))
  have h1 : Errs w1 ea B := H.out.below (hbw.mono HB.out)
  have g1 : w1.cell? ⟨2, 0, none⟩ = some (.iface 143 (.pointer (some (ea 1)))) := h1.var 1 (by decide) (by decide)
  have g2 : w1.cell? ⟨0, 0, none⟩ = some (.iface 143 (.pointer (some (ea 2)))) := h1.var 2 (by decide) (by decide)
  have g3 : w1.cell? ⟨1, 0, none⟩ = some (.iface 143 (.pointer (some (ea 3)))) := h1.var 3 (by decide) (by decide)
  have g4 : w1.cell? ⟨3, 0, none⟩ = some (.iface 143 (.pointer (some (ea 4)))) := h1.var 4 (by decide) (by decide)
  have g5 : w1.cell? ⟨4, 0, none⟩ = some (.iface 143 (.pointer (some (ea 5)))) := h1.var 5 (by decide) (by decide)
  have g6 : w1.cell? ⟨5, 0, none⟩ = some (.iface 143 (.pointer (some (ea 6)))) := h1.var 6 (by decide) (by decide)
  have g7 : w1.cell? ⟨6, 0, none⟩ = some (.iface 143 (.pointer (some (ea 7)))) := h1.var 7 (by decide) (by decide)
  have g8 : w1.cell? ⟨7, 0, none⟩ = some (.iface 143 (.pointer (some (ea 8)))) := h1.var 8 (by decide) (by decide)
  have g9 : w1.cell? ⟨8, 0, none⟩ = some (.iface 143 (.pointer (some (ea 9)))) := h1.var 9 (by decide) (by decide)
  have HH := Lib.hid h1
  have HBW := Lib.hid hbw
  clear hb1 h1 hbw
  go_wp2_with fail
  obtain ⟨w2, hw2⟩ : ∃ w2, w2 = w1.alloc (.cells #[.iface 143 (.pointer (some (ea 1))), .iface 143 (.pointer (some (ea 2))), .iface 143 (.pointer (some (ea 3))), .iface 143 (.pointer (some (ea 4))), .iface 143 (.pointer (some (ea 5))), .iface 143 (.pointer (some (ea 6))), .iface 143 (.pointer (some (ea 7))), .iface 143 (.pointer (some (ea 8))), .iface 143 (.pointer (some (ea 9)))] 32) := ⟨_, rfl⟩
  rw [← hw2]
  have hcell : ∀ j : Nat, j < 9 → w2.cell? ⟨w1.heap.size, j, none⟩ = some (.iface 143 (.pointer (some (ea (j + 1))))) := fun j hj => by
    rw [hw2, (Blk.new w1 _ _).cell j]
    match j, hj with
    | 0, _ => rfl
    | 1, _ => rfl
    | 2, _ => rfl
    | 3, _ => rfl
    | 4, _ => rfl
    | 5, _ => rfl
    | 6, _ => rfl
    | 7, _ => rfl
    | 8, _ => rfl
  have hb2 : Below w.heap.size w w2 := by rw [hw2]; exact HBW.out.alloc HBW.out.size _
  have HC := Lib.hid hcell
  have HB2 := Lib.hid hb2
  have HER := Lib.hid (H.out.below (hb2.mono HB.out))
  clear hcell hb2 hw2 g1 g2 g3 g4 g5 g6 g7 g8 g9
  go_loop [3, 27] (fun t i => ∃ j : Nat, j < k ∧ t = .int .i64 (-1) ∧ i = .int .i64 j) (fun _ i => 9 - (intOf i).toNat)
  case atStart => exact ⟨0, by omega, rfl, rfl⟩
  case round =>
    obtain ⟨j, hj, rfl, rfl⟩ := hrel
    have hj9 : j < 9 := by omega
    have hc := HC.out j hj9
    have his := is_sent HER.out hk hk9 (show 1 ≤ j + 1 by omega) (show j + 1 ≤ 9 by omega)
    unfold errV at his
    rw [if_neg (by omega), if_neg (by omega)] at his
    by_cases hjk : k = j + 1
    · rw [decide_eq_true hjk] at his
      have HIS := Lib.hid his
      have HJK := Lib.hid hjk
      clear his hjk
      go_wp2_with fail
      refine HIS.out.mono ?_
      rintro e w' ⟨rfl, rfl⟩
      go_wp2
      go_ret2
      exact ⟨by rw [HJK.out]; simp, HB2.out⟩
    · rw [decide_eq_false hjk] at his
      have HIS := Lib.hid his
      clear his
      go_wp2_with fail
      refine HIS.out.mono ?_
      rintro e w' ⟨rfl, rfl⟩
      go_wp2
      go_round
      case rel => exact ⟨j + 1, by omega, rfl, by go_num⟩
      case measure => simp [intOf]; omega

set_option maxHeartbeats 800000 in
theorem code_fault {w : World} {ea : Nat → Addr} {B : Nat} (h : Errs w ea B) (hB : B ≤ w.heap.size) {k : Nat} (hk : 1 ≤ k) (hk9 : k ≤ 9) {pb : Nat} {at_ : Int} (c0 : w.cell? ⟨pb, 0, none⟩ = some (.int .i64 at_)) (c1 : w.cell? ⟨pb, 1, none⟩ = some (errV ea k)) :
    Calls Tryd.prog 23 #[.iface 61 (.pointer (some ⟨pb, 0, none⟩))] w (CPost w k at_) := by
  have he : errV ea k = .iface 143 (.pointer (some (ea k))) := by unfold errV; rw [if_neg (by omega)]
  rw [he] at c1
  have hpb := World.block_lt_of_cell? w _ c0
  have HP := Lib.hid (And.intro c0 (And.intro c1 hpb))
  have H := Lib.hid h
  have HE := Lib.hid he
  have HB := Lib.hid hB
  have A1 := Lib.hid (as_hit ⟨pb, 0, none⟩ ⟨w.heap.size, 0, none⟩ (.pointer none) (w.alloc (.cells #[.pointer none] 61)) (by rw [World.cell?_alloc_lt _ _ ⟨_, 0, none⟩ (Nat.lt_of_lt_of_le h.etlow hB)]; exact h.et) ((Blk.new w _ _).cell 0) ((Blk.new w _ _).frozen 0))
  obtain ⟨W1, hW1⟩ : ∃ W1, W1 = (((((w.alloc (.cells #[.pointer none] 61)).alloc (.cells #[.pointer (some ⟨w.heap.size, 0, none⟩)] 82)).alloc (.cells #[.pointer (some ⟨10, 82, none⟩), .pointer (some ⟨(w.alloc (.cells #[.pointer none] 61)).heap.size, 0, none⟩), .int .u64 150] 91)).alloc (.cells #[.pointer (some ⟨10, 82, none⟩), .pointer (some ⟨(w.alloc (.cells #[.pointer none] 61)).heap.size, 0, none⟩), .int .u64 150] 91)).alloc (.cells #[.pointer (some ⟨pb, 0, none⟩)] 61)).setCell ⟨w.heap.size, 0, none⟩ (.pointer (some ⟨pb, 0, none⟩)) := ⟨_, rfl⟩
  have hbw : Below w.heap.size w W1 := by rw [hW1]; exact ((((((Below.refl _ w).alloc (Nat.le_refl _) _).alloc (by simp) _).alloc (by simp; omega) _).alloc (by simp; omega) _).alloc (by simp; omega) _).setCell (Nat.le_refl _) _
  have kf : Blk W1 w.heap.size 61 #[.pointer (some ⟨pb, 0, none⟩)] := by rw [hW1]; exact (((((Blk.new w _ _).alloc _).alloc _).alloc _).alloc _).set_ 0 _
  have HW1 := Lib.hid hW1
  have HBW1 := Lib.hid hbw
  have HKF := Lib.hid kf
  clear h he hB c0 c1 hpb hW1 hbw kf
  go_enter Tryd.func23, Tryd.ntmps23
  go_wp2_with fail
  refine A1.out.mono ?_
  rintro e w1 ⟨rfl, hw1⟩
  rw [← HW1.out] at hw1
  obtain rfl := hw1.symm
  have hbw : Below w.heap.size w W1 := HBW1.out
  have h1 : Errs W1 ea B := H.out.below (hbw.mono HB.out)
  have y0 := HKF.out.cell 0
  have p0 := (hbw.cell (p := ⟨pb, 0, none⟩) HP.out.2.2).trans HP.out.1
  have g1 : W1.cell? ⟨2, 0, none⟩ = some (.iface 143 (.pointer (some (ea 1)))) := h1.var 1 (by decide) (by decide)
  have g2 : W1.cell? ⟨0, 0, none⟩ = some (.iface 143 (.pointer (some (ea 2)))) := h1.var 2 (by decide) (by decide)
  have g3 : W1.cell? ⟨1, 0, none⟩ = some (.iface 143 (.pointer (some (ea 3)))) := h1.var 3 (by decide) (by decide)
  have g4 : W1.cell? ⟨3, 0, none⟩ = some (.iface 143 (.pointer (some (ea 4)))) := h1.var 4 (by decide) (by decide)
  have g5 : W1.cell? ⟨4, 0, none⟩ = some (.iface 143 (.pointer (some (ea 5)))) := h1.var 5 (by decide) (by decide)
  have g6 : W1.cell? ⟨5, 0, none⟩ = some (.iface 143 (.pointer (some (ea 6)))) := h1.var 6 (by decide) (by decide)
  have g7 : W1.cell? ⟨6, 0, none⟩ = some (.iface 143 (.pointer (some (ea 7)))) := h1.var 7 (by decide) (by decide)
  have g8 : W1.cell? ⟨7, 0, none⟩ = some (.iface 143 (.pointer (some (ea 8)))) := h1.var 8 (by decide) (by decide)
  have g9 : W1.cell? ⟨8, 0, none⟩ = some (.iface 143 (.pointer (some (ea 9)))) := h1.var 9 (by decide) (by decide)
  have HH := Lib.hid h1
  have HBW := Lib.hid hbw
  clear h1 hbw
  go_wp2_with fail
  obtain ⟨w2, hw2⟩ : ∃ w2, w2 = W1.alloc (.cells #[.iface 143 (.pointer (some (ea 1))), .iface 143 (.pointer (some (ea 2))), .iface 143 (.pointer (some (ea 3))), .iface 143 (.pointer (some (ea 4))), .iface 143 (.pointer (some (ea 5))), .iface 143 (.pointer (some (ea 6))), .iface 143 (.pointer (some (ea 7))), .iface 143 (.pointer (some (ea 8))), .iface 143 (.pointer (some (ea 9)))] 32) := ⟨_, rfl⟩
  rw [← hw2]
  have hcell : ∀ j : Nat, j < 9 → w2.cell? ⟨W1.heap.size, j, none⟩ = some (.iface 143 (.pointer (some (ea (j + 1))))) := fun j hj => by
    rw [hw2, (Blk.new W1 _ _).cell j]
    match j, hj with
    | 0, _ => rfl
    | 1, _ => rfl
    | 2, _ => rfl
    | 3, _ => rfl
    | 4, _ => rfl
    | 5, _ => rfl
    | 6, _ => rfl
    | 7, _ => rfl
    | 8, _ => rfl
  have hb2 : Below w.heap.size w w2 := by rw [hw2]; exact HBW.out.alloc HBW.out.size _
  have HC := Lib.hid hcell
  have HB2 := Lib.hid hb2
  have HER := Lib.hid (H.out.below (hb2.mono HB.out))
  clear hcell hb2 hw2 y0 p0 g1 g2 g3 g4 g5 g6 g7 g8 g9
  go_loop [3, 27] (fun t i => ∃ j : Nat, j < k ∧ t = .int .i64 at_ ∧ i = .int .i64 j) (fun _ i => 9 - (intOf i).toNat)
  case atStart => exact ⟨0, by omega, rfl, rfl⟩
  case round =>
    obtain ⟨j, hj, rfl, rfl⟩ := hrel
    have hj9 : j < 9 := by omega
    have hc := HC.out j hj9
    have q1 := (HB2.out.cell (p := ⟨pb, 1, none⟩) HP.out.2.2).trans HP.out.2.1
    have his : Calls Tryd.prog 39 #[.iface 61 (.pointer (some ⟨pb, 0, none⟩)), .iface 143 (.pointer (some (ea (j + 1))))] w2 (fun e w' => e = .returned (.bool (decide (k = j + 1))) ∧ w2 = w') := by
      by_cases hjk : k = j + 1
      · rw [decide_eq_true hjk, ← hjk]; exact is_fault_same pb (ea k) w2 q1
      · rw [decide_eq_false hjk]
        obtain ⟨_, c, t, hc⟩ := HER.out.held k hk hk9
        obtain ⟨_, c', t', hc'⟩ := HER.out.held (j + 1) (by omega) (by omega)
        exact is_fault_other pb (ea k) (ea (j + 1)) c c' t t' w2 q1 (HER.out.apart k (j + 1) hk hk9 (by omega) (by omega) hjk) hc hc'
    clear q1
    by_cases hjk : k = j + 1
    · rw [decide_eq_true hjk] at his
      have HIS := Lib.hid his
      have HJK := Lib.hid hjk
      clear his hjk
      go_wp2_with fail
      refine HIS.out.mono ?_
      rintro e w' ⟨rfl, rfl⟩
      go_wp2
      go_ret2
      exact ⟨by rw [HJK.out]; simp, HB2.out⟩
    · rw [decide_eq_false hjk] at his
      have HIS := Lib.hid his
      clear his
      go_wp2_with fail
      refine HIS.out.mono ?_
      rintro e w' ⟨rfl, rfl⟩
      go_wp2
      go_round
      case rel => exact ⟨j + 1, by omega, rfl, by go_num⟩
      case measure => simp [intOf]; omega


/-- faulted's answer: an error's number and place are those -/
theorem faulted_of {w : World} {ev : Value} {n at_ code pl : Int} (hc : Calls Tryd.prog 23 #[ev] (w.alloc (.cells #[.int .i64 code, .int .i64 pl] 37)) (CPost (w.alloc (.cells #[.int .i64 code, .int .i64 pl] 37)) n at_)) (h1 : n = code) (h2 : n = 0 ∨ at_ = pl) :
    Calls Tryd.prog 10 #[ev, .agg #[.int .i64 code, .int .i64 pl]] w fun e w' => e = .returned (.bool true) ∧ Below w.heap.size w w' := by
  obtain ⟨W1, hW1⟩ : ∃ W1, W1 = w.alloc (.cells #[.int .i64 code, .int .i64 pl] 37) := ⟨_, rfl⟩
  rw [← hW1] at hc
  have k1 : Blk W1 w.heap.size 37 #[.int .i64 code, .int .i64 pl] := by rw [hW1]; exact Blk.new w _ _
  have hb1 : Below w.heap.size w W1 := by rw [hW1]; exact (Below.refl _ _).alloc (Nat.le_refl _) _
  have HC := Lib.hid hc
  have HK1 := Lib.hid k1
  have HB1 := Lib.hid hb1
  have HW1 := Lib.hid hW1
  clear hc k1 hb1 hW1
  subst h1
  have e1 : (n == n) = true := by simp
  obtain ⟨q0, hq0⟩ : ∃ q0, (n == 0) = q0 := ⟨_, rfl⟩
  cases q0 with
  | true =>
    clear h2
    go_enter Tryd.func10, Tryd.ntmps10
    go_upto_region 1 with fail
    rw [← HW1.out]
    go_wp2_with fail
    refine HC.out.mono ?_
    rintro e w2 ⟨rfl, hb⟩
    have HB := Lib.hid (HB1.out.trans (hb.mono HB1.out.size))
    have k2 := HK1.out.below hb HK1.out.lt
    have c0 := k2.cell 0
    have c1 := k2.cell 1
    clear hb k2
    go_wp2_with fail
    go_ret
    exact ⟨rfl, HB.out⟩
  | false =>
    obtain rfl : at_ = pl := h2.resolve_left (by simpa using hq0)
    have e2 : (at_ == at_) = true := by simp
    go_enter Tryd.func10, Tryd.ntmps10
    go_upto_region 1 with fail
    rw [← HW1.out]
    go_wp2_with fail
    refine HC.out.mono ?_
    rintro e w2 ⟨rfl, hb⟩
    have HB := Lib.hid (HB1.out.trans (hb.mono HB1.out.size))
    have k2 := HK1.out.below hb HK1.out.lt
    have c0 := k2.cell 0
    have c1 := k2.cell 1
    clear hb k2
    go_wp2_with fail
    go_ret
    exact ⟨rfl, HB.out⟩
end Go.Proofs.YtaedbnbeelkkcaaDoor
