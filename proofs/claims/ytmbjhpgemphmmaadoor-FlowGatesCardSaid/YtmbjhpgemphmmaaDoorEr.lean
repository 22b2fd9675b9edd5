/-
  WALKS of errors.Is and errors.As at the errors of this program: sentinels (errors.New's make) and *api.Fault. After the kit's worked texts (Sentry, Toyas).
-/
import Derived.Test.YtmbjhpgemphmmaaDoorGr
import Derived.LaidEql
import Derived.Stop.Asserts
import Derived.RowKitTokens
namespace Go.Proofs.YtmbjhpgemphmmaaDoor
open Go.RowKit Go.Extern.Stop Go.Stop Go.Extern

theorem erTypeOf (v : Value) (w : World) : (Extern.ReflectliteType.typeOf #[.iface 220 v]).run Tryd.prog w = .ok (.iface 190 (.agg #[.pointer (some ⟨14, 220, none⟩)])) w := by kernel_rfl
theorem erComparable (w : World) : ((Extern.ReflectliteType.method fun t => do Extern.Rtype.noPackHeld "Comparable" t; (fun a => Value.bool a.comparable) <$> typeInfo t) #[.agg #[.pointer (some ⟨14, 220, none⟩)]]).run Tryd.prog w = .ok (.bool true) w := by kernel_rfl
theorem erMethodComparable (v : Value) (w : World) : (Go.method 350 190 v "Comparable").run Tryd.prog w = .ok (161, v) w := by kernel_rfl
theorem erComp : (Tryd.prog.info? 220).map (·.comparable) = some true := by kernel_rfl
theorem erSize : (Tryd.prog.info? 238).map (·.size) = some 1 := by kernel_rfl
theorem noIsE (v : Value) (xT : TypeId) (w : World) : (Instr.typeAssert (.iface 220 v) xT 201 true).run Tryd.prog w = .ok (.tuple #[.nilIface, .bool false]) w := run_typeAssert_lacksB Tryd.underlying201 (by kernel_rfl) (by kernel_rfl) v xT w
theorem noAsE (v : Value) (xT : TypeId) (w : World) : (Instr.typeAssert (.iface 220 v) xT 194 true).run Tryd.prog w = .ok (.tuple #[.nilIface, .bool false]) w := run_typeAssert_lacksB Tryd.underlying194 (by kernel_rfl) (by kernel_rfl) v xT w
theorem noUnwrapE (v : Value) (xT : TypeId) (w : World) : (Instr.typeAssert (.iface 220 v) xT 197 true).run Tryd.prog w = .ok (.tuple #[.nilIface, .bool false]) w := run_typeAssert_lacksB Tryd.underlying197 (by kernel_rfl) (by kernel_rfl) v xT w
theorem noUnwrapsE (v : Value) (xT : TypeId) (w : World) : (Instr.typeAssert (.iface 220 v) xT 199 true).run Tryd.prog w = .ok (.tuple #[.nilIface, .bool false]) w := run_typeAssert_lacksB Tryd.underlying199 (by kernel_rfl) (by kernel_rfl) v xT w
theorem noIsF (v : Value) (xT : TypeId) (w : World) : (Instr.typeAssert (.iface 157 v) xT 201 true).run Tryd.prog w = .ok (.tuple #[.nilIface, .bool false]) w := run_typeAssert_lacksB Tryd.underlying201 (by kernel_rfl) (by kernel_rfl) v xT w
theorem hasUnwrapF (v : Value) (xT : TypeId) (w : World) : (Instr.typeAssert (.iface 157 v) xT 197 true).run Tryd.prog w = .ok (.tuple #[.iface 157 v, .bool true]) w := run_typeAssert_hasB Tryd.underlying197 (by kernel_rfl) v xT w
theorem methodUnwrapF (v : Value) (w : World) : (Go.method 350 157 v "Unwrap").run Tryd.prog w = .ok (155, v) w := by kernel_rfl

theorem is_same (a : Addr) (w : World) :
    Calls Tryd.prog 90 #[.iface 220 (.pointer (some a)), .iface 220 (.pointer (some a))] w fun e w' => e = .returned (.bool true) ∧ w = w' := by
  obtain ⟨i, hi, hcmp⟩ := Option.map_eq_some_iff.1 erComp
  obtain ⟨j, hj, hjs⟩ := Option.map_eq_some_iff.1 erSize
  have h8 := @run_callFunc_extern Tryd.prog 116 _ Extern.ReflectliteType.typeOf Tryd.func116 (by kernel_rfl) (by kernel_rfl) (by kernel_rfl) (by kernel_rfl)
  have h32 := @run_callFunc_extern Tryd.prog 161 _ (Extern.ReflectliteType.method fun t => do Extern.Rtype.noPackHeld "Comparable" t; pure (.bool (← typeInfo t).comparable)) Tryd.func161 (by kernel_rfl) (by kernel_rfl) (by kernel_rfl) (by kernel_rfl)
  have tT := erTypeOf
  have cT := erComparable
  have mR := erMethodComparable
  have heq := run_eql_iface_ptr_same (P := Tryd.prog) w a Tryd.underlying31 Tryd.underlying220 hi hcmp hj
  go_enter Tryd.func90, Tryd.ntmps90
  go_wp2
  refine wp_loop_rounds 1 ?_
  rw [rounds_succ]
  go_wp2
  go_ret
  exact ⟨rfl, rfl⟩
theorem is_other (a b : Addr) (ca cb : Array Value) (ta tb : TypeId) (w : World) (hne : a ≠ b) (ha : w.heap[a.block]? = some (.cells ca ta (0, 0))) (hb : w.heap[b.block]? = some (.cells cb tb (0, 0))) :
    Calls Tryd.prog 90 #[.iface 220 (.pointer (some a)), .iface 220 (.pointer (some b))] w fun e w' => e = .returned (.bool false) ∧ w = w' := by
  obtain ⟨i, hi, hcmp⟩ := Option.map_eq_some_iff.1 erComp
  obtain ⟨j, hj, hjs⟩ := Option.map_eq_some_iff.1 erSize
  have h8 := @run_callFunc_extern Tryd.prog 116 _ Extern.ReflectliteType.typeOf Tryd.func116 (by kernel_rfl) (by kernel_rfl) (by kernel_rfl) (by kernel_rfl)
  have h32 := @run_callFunc_extern Tryd.prog 161 _ (Extern.ReflectliteType.method fun t => do Extern.Rtype.noPackHeld "Comparable" t; pure (.bool (← typeInfo t).comparable)) Tryd.func161 (by kernel_rfl) (by kernel_rfl) (by kernel_rfl) (by kernel_rfl)
  have tT := erTypeOf
  have cT := erComparable
  have mR := erMethodComparable
  have nE := noIsE
  have uE := noUnwrapE
  have vE := noUnwrapsE
  have heq := run_eql_iface_ptr_other (P := Tryd.prog) w Tryd.underlying31 Tryd.underlying220 hi hcmp hj (by rw [hjs]; decide) hne ha hb
  go_enter Tryd.func90, Tryd.ntmps90
  go_wp2
  refine wp_loop_rounds 1 ?_
  rw [rounds_succ]
  go_wp2
  go_ret
  exact ⟨rfl, rfl⟩
end Go.Proofs.YtmbjhpgemphmmaaDoor
