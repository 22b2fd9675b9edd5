/-
  WALKS of errors.Is and errors.As at the errors of this program: sentinels (errors.New's make) and *api.Fault. After the kit's worked texts (Sentry, Toyas).
  WALKS of errors.Is at *api.Fault, and errors.As for a target of type **api.Fault. After the kit's worked texts (Sentry, Toyas).
  WALKS of errors.As for a target of type **api.Fault, at nil, at a sentinel and at a *api.Fault.
  WALKS of plain.Code and coded: what number an error has.
-/
import Derived.Test.YtmbjhpgemphmmaaDoorGr
import Derived.LaidEql
import Derived.Stop.Asserts
import Derived.RowKitTokens
namespace Go.Proofs.YtmbjhpgemphmmaaDoor
open Go.RowKit Go.Extern.Stop Go.Stop Go.Extern

theorem erTypeOf (v : Value) (w : World) : (Extern.ReflectliteType.typeOf #[.iface 220 v]).run Tryd.prog w = .ok (.iface 190 (.agg #[.pointer (some ⟨14, 220, none⟩)])) w := by kernel_rfl
theorem erComparable (w : World) : ((Extern.ReflectliteType.method fun t => do Extern.Rtype.noPackHeld "Comparable" t; (fun a => Value.bool a.comparable) <$> typeInfo t) #[.agg #[.pointer (some ⟨14, 220, none⟩)]]).run Tryd.prog w = .ok (.bool true) w := by kernel_rfl
theorem erMethodComparable (v : Value) (w : World) : (Go.method 350 190 v "Comparable").run Tryd.prog w = .ok (161, v) w := by kernel_rfl
theorem erComp : (Tryd.prog.info? 220).map (·.comparable) = some true := by kernel_rfl
theorem erSize : (Tryd.prog.info? 238).map (·.size) = some 1 := by kernel_rfl
theorem noIsE (v : Value) (xT : TypeId) (w : World) : (Instr.typeAssert (.iface 220 v) xT 201 true).run Tryd.prog w = .ok (.tuple #[.nilIface, .bool false]) w := run_typeAssert_lacksB Tryd.underlying201 (by kernel_rfl) (by kernel_rfl) v xT w
theorem noAsE (v : Value) (xT : TypeId) (w : World) : (Instr.typeAssert (.iface 220 v) xT 194 true).run Tryd.prog w = .ok (.tuple #[.nilIface, .bool false]) w := run_typeAssert_lacksB Tryd.underlying194 (by kernel_rfl) (by kernel_rfl) v xT w
theorem noUnwrapE (v : Value) (xT : TypeId) (w : World) : (Instr.typeAssert (.iface 220 v) xT 197 true).run Tryd.prog w = .ok (.tuple #[.nilIface, .bool false]) w := run_typeAssert_lacksB Tryd.underlying197 (by kernel_rfl) (by kernel_rfl) v xT w
theorem noUnwrapsE (v : Value) (xT : TypeId) (w : World) : (Instr.typeAssert (.iface 220 v) xT 199 true).run Tryd.prog w = .ok (.tuple #[.nilIface, .bool false]) w := run_typeAssert_lacksB Tryd.underlying199 (by kernel_rfl) (by kernel_rfl) v xT w
theorem noIsF (v : Value) (xT : TypeId) (w : World) : (Instr.typeAssert (.iface 157 v) xT 201 true).run Tryd.prog w = .ok (.tuple #[.nilIface, .bool false]) w := run_typeAssert_lacksB Tryd.underlying201 (by kernel_rfl) (by kernel_rfl) v xT w
theorem hasUnwrapF (v : Value) (xT : TypeId) (w : World) : (Instr.typeAssert (.iface 157 v) xT 197 true).run Tryd.prog w = .ok (.tuple #[.iface 157 v, .bool true]) w := run_typeAssert_hasB Tryd.underlying197 (by kernel_rfl) v xT w
theorem methodUnwrapF (v : Value) (w : World) : (Go.method 350 157 v "Unwrap").run Tryd.prog w = .ok (155, v) w := by kernel_rfl

theorem is_same (a : Addr) (w : World) :
    Calls Tryd.prog 90 #[.iface 220 (.pointer (some a)), .iface 220 (.pointer (some a))] w fun e w' => e = .returned (.bool true) ∧ w = w' := by
  obtain ⟨i, hi, hcmp⟩ := Option.map_eq_some_iff.1 erComp
  obtain ⟨j, hj, hjs⟩ := Option.map_eq_some_iff.1 erSize
  have h8 := @run_callFunc_extern Tryd.prog 116 _ Extern.ReflectliteType.typeOf Tryd.func116 (by kernel_rfl) (by kernel_rfl) (by kernel_rfl) (by kernel_rfl)
  have h32 := @run_callFunc_extern Tryd.prog 161 _ (Extern.ReflectliteType.method fun t => do Extern.Rtype.noPackHeld "Comparable" t; pure (.bool (← typeInfo t).comparable)) Tryd.func161 (by kernel_rfl) (by kernel_rfl) (by kernel_rfl) (by kernel_rfl)
  have tT := erTypeOf
  have cT := erComparable
  have mR := erMethodComparable
  have heq := run_eql_iface_ptr_same (P := Tryd.prog) w a Tryd.underlying31 Tryd.underlying220 hi hcmp hj
  go_enter Tryd.func90, Tryd.ntmps90
  go_wp2
  refine wp_loop_rounds 1 ?_
  rw [rounds_succ]
  go_wp2
  go_ret
  exact ⟨rfl, rfl⟩
theorem is_other (a b : Addr) (ca cb : Array Value) (ta tb : TypeId) (w : World) (hne : a ≠ b) (ha : w.heap[a.block]? = some (.cells ca ta (0, 0))) (hb : w.heap[b.block]? = some (.cells cb tb (0, 0))) :
    Calls Tryd.prog 90 #[.iface 220 (.pointer (some a)), .iface 220 (.pointer (some b))] w fun e w' => e = .returned (.bool false) ∧ w = w' := by
  obtain ⟨i, hi, hcmp⟩ := Option.map_eq_some_iff.1 erComp
  obtain ⟨j, hj, hjs⟩ := Option.map_eq_some_iff.1 erSize
  have h8 := @run_callFunc_extern Tryd.prog 116 _ Extern.ReflectliteType.typeOf Tryd.func116 (by kernel_rfl) (by kernel_rfl) (by kernel_rfl) (by kernel_rfl)
  have h32 := @run_callFunc_extern Tryd.prog 161 _ (Extern.ReflectliteType.method fun t => do Extern.Rtype.noPackHeld "Comparable" t; pure (.bool (← typeInfo t).comparable)) Tryd.func161 (by kernel_rfl) (by kernel_rfl) (by kernel_rfl) (by kernel_rfl)
  have tT := erTypeOf
  have cT := erComparable
  have mR := erMethodComparable
  have nE := noIsE
  have uE := noUnwrapE
  have vE := noUnwrapsE
  have heq := run_eql_iface_ptr_other (P := Tryd.prog) w Tryd.underlying31 Tryd.underlying220 hi hcmp hj (by rw [hjs]; decide) hne ha hb
  go_enter Tryd.func90, Tryd.ntmps90
  go_wp2
  refine wp_loop_rounds 1 ?_
  rw [rounds_succ]
  go_wp2
  go_ret
  exact ⟨rfl, rfl⟩
end Go.Proofs.YtmbjhpgemphmmaaDoor
namespace Go.Proofs.YtmbjhpgemphmmaaDoor
open Go.RowKit Go.Extern.Stop Go.Stop Go.Extern

theorem is_fault_same (pb : Nat) (b : Addr) (w : World) (h1 : w.cell? ⟨pb, 1, none⟩ = some (.iface 220 (.pointer (some b)))) :
    Calls Tryd.prog 90 #[.iface 157 (.pointer (some ⟨pb, 0, none⟩)), .iface 220 (.pointer (some b))] w fun e w' => e = .returned (.bool true) ∧ w = w' := by
  obtain ⟨i, hi, hcmp⟩ := Option.map_eq_some_iff.1 erComp
  obtain ⟨j, hj, hjs⟩ := Option.map_eq_some_iff.1 erSize
  have h8 := @run_callFunc_extern Tryd.prog 116 _ Extern.ReflectliteType.typeOf Tryd.func116 (by kernel_rfl) (by kernel_rfl) (by kernel_rfl) (by kernel_rfl)
  have h32 := @run_callFunc_extern Tryd.prog 161 _ (Extern.ReflectliteType.method fun t => do Extern.Rtype.noPackHeld "Comparable" t; pure (.bool (← typeInfo t).comparable)) Tryd.func161 (by kernel_rfl) (by kernel_rfl) (by kernel_rfl) (by kernel_rfl)
  have tT := erTypeOf
  have cT := erComparable
  have mR := erMethodComparable
  have nW := noIsF
  have uW := hasUnwrapF
  have mU := methodUnwrapF
  have heq := run_eql_iface_ptr_same (P := Tryd.prog) w b Tryd.underlying31 Tryd.underlying220 hi hcmp hj
  have hty := run_eql_iface_types (P := Tryd.prog) 157 220 (.pointer (some ⟨pb, 0, none⟩)) (.pointer (some b)) Tryd.underlying31 (by decide) w
  go_enter Tryd.func90, Tryd.ntmps90
  go_wp2
  refine wp_loop_rounds 2 ?_
  rw [rounds_succ]
  go_wp2
  rw [rounds_succ]
  go_wp2
  go_ret
  exact ⟨rfl, rfl⟩
theorem is_fault_other (pb : Nat) (a b : Addr) (ca cb : Array Value) (ta tb : TypeId) (w : World) (h1 : w.cell? ⟨pb, 1, none⟩ = some (.iface 220 (.pointer (some a)))) (hne : a ≠ b) (ha : w.heap[a.block]? = some (.cells ca ta (0, 0))) (hb : w.heap[b.block]? = some (.cells cb tb (0, 0))) :
    Calls Tryd.prog 90 #[.iface 157 (.pointer (some ⟨pb, 0, none⟩)), .iface 220 (.pointer (some b))] w fun e w' => e = .returned (.bool false) ∧ w = w' := by
  obtain ⟨i, hi, hcmp⟩ := Option.map_eq_some_iff.1 erComp
  obtain ⟨j, hj, hjs⟩ := Option.map_eq_some_iff.1 erSize
  have h8 := @run_callFunc_extern Tryd.prog 116 _ Extern.ReflectliteType.typeOf Tryd.func116 (by kernel_rfl) (by kernel_rfl) (by kernel_rfl) (by kernel_rfl)
  have h32 := @run_callFunc_extern Tryd.prog 161 _ (Extern.ReflectliteType.method fun t => do Extern.Rtype.noPackHeld "Comparable" t; pure (.bool (← typeInfo t).comparable)) Tryd.func161 (by kernel_rfl) (by kernel_rfl) (by kernel_rfl) (by kernel_rfl)
  have tT := erTypeOf
  have cT := erComparable
  have mR := erMethodComparable
  have nE := noIsE
  have uE := noUnwrapE
  have vE := noUnwrapsE
  have nW := noIsF
  have uW := hasUnwrapF
  have mU := methodUnwrapF
  have heq := run_eql_iface_ptr_other (P := Tryd.prog) w Tryd.underlying31 Tryd.underlying220 hi hcmp hj (by rw [hjs]; decide) hne ha hb
  have hty := run_eql_iface_types (P := Tryd.prog) 157 220 (.pointer (some ⟨pb, 0, none⟩)) (.pointer (some b)) Tryd.underlying31 (by decide) w
  go_enter Tryd.func90, Tryd.ntmps90
  go_wp2
  refine wp_loop_rounds 2 ?_
  rw [rounds_succ]
  go_wp2
  rw [rounds_succ]
  go_wp2
  go_ret
  exact ⟨rfl, rfl⟩

/-! ### errors.As, the target a **api.Fault -/
theorem asValueOf (t : Addr) (w : World) : (ReflectliteValue.unpack (.iface 159 (.pointer (some t)))).run Tryd.prog w
    = .ok (.agg #[.pointer (some ⟨14, 159, none⟩), .pointer (some ⟨w.heap.size, 0, none⟩), .int .u64 150]) (w.alloc (.cells #[.pointer (some t)] 159)) := by kernel_rfl
theorem asType (a : Addr) (w : World) : (ReflectliteValue.methodAny (ReflectliteValue.valueError "reflectlite.Value.Type" 0) (fun t _ _ _ => ReflectliteType.toType t) #[.agg #[.pointer (some ⟨14, 159, none⟩), .pointer (some a), .int .u64 150]]).run Tryd.prog w
    = .ok (.iface 190 (.agg #[.pointer (some ⟨14, 159, none⟩)])) w := by kernel_rfl
theorem asMethodKind (h : Value) (w : World) : (Go.method 350 190 (.agg #[h]) "Kind").run Tryd.prog w = .ok (150, h) w := by kernel_rfl
theorem asKindPP (w : World) : ((ReflectliteType.abiMethod fun t => (fun a : Nat => Value.int IntKind.u8 (a : Int)) <$> Rtype.kind t) #[.pointer (some ⟨14, 159, none⟩)]).run Tryd.prog w = .ok (.int .u8 22) w := by kernel_rfl
theorem asKindP (w : World) : ((ReflectliteType.abiMethod fun t => (fun a : Nat => Value.int IntKind.u8 (a : Int)) <$> Rtype.kind t) #[.pointer (some ⟨14, 157, none⟩)]).run Tryd.prog w = .ok (.int .u8 22) w := by kernel_rfl
theorem rlm (z : Sem Value) (f : TypeId → Addr → Nat → Nat → Sem Value) (v : Value) :
    ReflectliteValue.method z f #[v] = (do match ← ReflectliteValue.parts v with | none => z | some (t, a, fl) => f t a fl (fl % 32)) := rfl
theorem asPartsPP (a : Addr) (w : World) : (ReflectliteValue.parts (.agg #[.pointer (some ⟨14, 159, none⟩), .pointer (some a), .int .u64 150])).run Tryd.prog w = .ok (some (159, a, 150)) w := by kernel_rfl
theorem asIsNil (a p : Addr) (W : World) (ha : W.cell? a = some (.pointer (some p))) :
    (ReflectliteValue.method (ReflectliteValue.valueError "reflectlite.Value.IsNil" 0) ReflectliteValue.isNil #[.agg #[.pointer (some ⟨14, 159, none⟩), .pointer (some a), .int .u64 150]]).run Tryd.prog W = .ok (.bool false) W := by
  rw [rlm]
  simp only [Sem.run_bind, asPartsPP, Result.andThen]
  simp [ReflectliteValue.isNil, loadVar, isAgg, underlying, Tryd.underlying159, ha, Result.andThen]
theorem asMethodElem (h : Value) (w : World) : (Go.method 350 190 (.agg #[h]) "Elem").run Tryd.prog w = .ok (162, .agg #[h]) w := by kernel_rfl
theorem asMethodImplements (h : Value) (w : World) : (Go.method 350 190 (.agg #[h]) "Implements").run Tryd.prog w = .ok (163, .agg #[h]) w := by kernel_rfl
theorem asMethodAssignableTo (h : Value) (w : World) : (Go.method 350 190 (.agg #[h]) "AssignableTo").run Tryd.prog w = .ok (160, .agg #[h]) w := by kernel_rfl
theorem asElem (w : World) : (ReflectliteType.method ReflectliteType.elem #[.agg #[.pointer (some ⟨14, 159, none⟩)]]).run Tryd.prog w = .ok (.iface 190 (.agg #[.pointer (some ⟨14, 157, none⟩)])) w := by kernel_rfl
theorem asImplements (w : World) : (ReflectliteType.relation "Implements" ReflectliteType.implements_ #[.agg #[.pointer (some ⟨14, 157, none⟩)], .iface 190 (.agg #[.pointer (some ⟨14, 31, none⟩)])]).run Tryd.prog w = .ok (.bool true) w := by kernel_rfl
theorem asTypeOfF (v : Value) (w : World) : (ReflectliteType.typeOf #[.iface 157 v]).run Tryd.prog w = .ok (.iface 190 (.agg #[.pointer (some ⟨14, 157, none⟩)])) w := by kernel_rfl
theorem asAssignableF (w : World) : (ReflectliteType.relation "AssignableTo" ReflectliteType.assignableTo #[.agg #[.pointer (some ⟨14, 157, none⟩)], .iface 190 (.agg #[.pointer (some ⟨14, 157, none⟩)])]).run Tryd.prog w = .ok (.bool true) w := by kernel_rfl
theorem asAssignableE (w : World) : (ReflectliteType.relation "AssignableTo" ReflectliteType.assignableTo #[.agg #[.pointer (some ⟨14, 220, none⟩)], .iface 190 (.agg #[.pointer (some ⟨14, 157, none⟩)])]).run Tryd.prog w = .ok (.bool false) w := by kernel_rfl
theorem asValueOfF (e : Addr) (w : World) : (ReflectliteValue.unpack (.iface 157 (.pointer (some e)))).run Tryd.prog w
    = .ok (.agg #[.pointer (some ⟨14, 157, none⟩), .pointer (some ⟨w.heap.size, 0, none⟩), .int .u64 150]) (w.alloc (.cells #[.pointer (some e)] 157)) := by kernel_rfl
theorem asElemOf (w : World) : (Rtype.elem? 159).run Tryd.prog w = .ok (some 157) w := by kernel_rfl
theorem asMk (p : Addr) (w : World) : (ReflectliteValue.mk 157 p ReflectliteValue.flagAddr).run Tryd.prog w = .ok (.agg #[.pointer (some ⟨14, 157, none⟩), .pointer (some p), .int .u64 406]) w := by kernel_rfl
theorem asElemV (a p : Addr) (W : World) (ha : W.cell? a = some (.pointer (some p))) :
    (ReflectliteValue.method (ReflectliteValue.valueError "reflectlite.Value.Elem" 0) ReflectliteValue.elem #[.agg #[.pointer (some ⟨14, 159, none⟩), .pointer (some a), .int .u64 150]]).run Tryd.prog W
      = .ok (.agg #[.pointer (some ⟨14, 157, none⟩), .pointer (some p), .int .u64 406]) W := by
  rw [rlm]
  simp only [Sem.run_bind, asPartsPP, Result.andThen]
  simp [ReflectliteValue.elem, loadVar, isAgg, underlying, Tryd.underlying159, ha, Result.andThen, asElemOf, asMk]
theorem asPartsA (a : Addr) (w : World) : (ReflectliteValue.parts (.agg #[.pointer (some ⟨14, 157, none⟩), .pointer (some a), .int .u64 406])).run Tryd.prog w = .ok (some (157, a, 406)) w := by kernel_rfl
theorem asPartsP (a : Addr) (w : World) : (ReflectliteValue.parts (.agg #[.pointer (some ⟨14, 157, none⟩), .pointer (some a), .int .u64 150])).run Tryd.prog w = .ok (some (157, a, 150)) w := by kernel_rfl
theorem asDirect (w : World) : (Rtype.directlyAssignable 157 157).run Tryd.prog w = .ok true w := by kernel_rfl
theorem asSize (w : World) : (sizeOf 157).run Tryd.prog w = .ok 1 w := by kernel_rfl
end Go.Proofs.YtmbjhpgemphmmaaDoor
namespace Go.Proofs.YtmbjhpgemphmmaaDoor
open Go.RowKit Go.Extern.Stop Go.Stop Go.Extern

theorem rls (v x : Value) : ∃ (rest : Option (TypeId × Addr × Nat) → Option (TypeId × Addr × Nat) → Sem Value) (B : TypeId → Addr → Nat → TypeId → Addr → Sem Value) (E : TypeId → Addr → Nat → TypeId → Addr → Value → Sem Value),
    ReflectliteValue.set #[v, x] = (ReflectliteValue.parts v >>= fun p => ReflectliteValue.parts x >>= fun q => rest p q) ∧
      ∀ dst a fl src b z, rest (some (dst, a, fl)) (some (src, b, z)) =
        (if (fl / ReflectliteValue.flagAddr % 2 == 0) = true then B dst a fl src b else
          (loadVar src b >>= fun val => Rtype.directlyAssignable dst src >>= fun c => if c = true then (storeVar dst a val >>= fun _ => pure (.tuple #[])) else E dst a fl src b val)) :=
  ⟨_, _, _, rfl, fun _ _ _ _ _ _ => rfl⟩
theorem asSet (ta b e : Addr) (old : Value) (W : World) (hb : W.cell? b = some (.pointer (some e))) (ht : W.cell? ta = some old) (hf : W.frozen? ta = false) :
    (ReflectliteValue.set #[.agg #[.pointer (some ⟨14, 157, none⟩), .pointer (some ta), .int .u64 406], .agg #[.pointer (some ⟨14, 157, none⟩), .pointer (some b), .int .u64 150]]).run Tryd.prog W
      = .ok (.tuple #[]) (W.setCell ta (.pointer (some e))) := by
  obtain ⟨rest, B, E, hE, hr⟩ := rls (.agg #[.pointer (some ⟨14, 157, none⟩), .pointer (some ta), .int .u64 406]) (.agg #[.pointer (some ⟨14, 157, none⟩), .pointer (some b), .int .u64 150])
  rw [hE]
  simp only [Sem.run_bind, asPartsA, asPartsP, Result.andThen, hr]
  simp [ReflectliteValue.flagAddr, loadVar, isAgg, underlying, Tryd.underlying157, hb, Result.andThen, asDirect, storeVar, Value.cells, storeCells, Addr.add]
  rw [run_store Tryd.prog W ta _ _ (by rfl)]
  simp [ht, hf]
theorem as_nil (t : Value) (w : World) :
    Calls Tryd.prog 89 #[.nilIface, t] w fun e w' => e = .returned (.bool false) ∧ w = w' := by
  go_enter Tryd.func89, Tryd.ntmps89
  go_wp2
  go_ret
  exact ⟨rfl, rfl⟩
set_option maxHeartbeats 4000000 in
theorem as_hit (e t : Addr) (old : Value) (w : World) (hg : w.cell? ⟨10, 0, none⟩ = some (.iface 190 (.agg #[.pointer (some ⟨14, 31, none⟩)]))) (ht0 : w.cell? t = some old) (hf0 : w.frozen? t = false) :
    Calls Tryd.prog 89 #[.iface 157 (.pointer (some e)), .iface 159 (.pointer (some t))] w fun ev w' => ev = .returned (.bool true) ∧ w' = ((((w.alloc (.cells #[.pointer (some t)] 159)).alloc (.cells #[.pointer (some ⟨14, 159, none⟩), .pointer (some ⟨w.heap.size, 0, none⟩), .int .u64 150] 175)).alloc (.cells #[.pointer (some ⟨14, 159, none⟩), .pointer (some ⟨w.heap.size, 0, none⟩), .int .u64 150] 175)).alloc (.cells #[.pointer (some e)] 157)).setCell t (.pointer (some e)) := by
  have h6 := @run_callFunc_extern Tryd.prog 112 _ (fun args => ReflectliteValue.unpack (args.getD 0 (.tuple #[]))) Tryd.func112 (by kernel_rfl) (by kernel_rfl) (by kernel_rfl) (by kernel_rfl)
  have h7 := @run_callFunc_extern Tryd.prog 113 _ (ReflectliteValue.methodAny (ReflectliteValue.valueError "reflectlite.Value.Type" 0) (fun t _ _ _ => ReflectliteType.toType t)) Tryd.func113 (by kernel_rfl) (by kernel_rfl) (by kernel_rfl) (by kernel_rfl)
  have h8 := @run_callFunc_extern Tryd.prog 114 _ (ReflectliteValue.method (ReflectliteValue.valueError "reflectlite.Value.IsNil" 0) ReflectliteValue.isNil) Tryd.func114 (by kernel_rfl) (by kernel_rfl) (by kernel_rfl) (by kernel_rfl)
  have h27 := @run_callFunc_extern Tryd.prog 150 _ (ReflectliteType.abiMethod fun t => do pure (.int .u8 (← Rtype.kind t))) Tryd.func150 (by kernel_rfl) (by kernel_rfl) (by kernel_rfl) (by kernel_rfl)
  have h37 := @run_callFunc_extern Tryd.prog 162 _ (ReflectliteType.method ReflectliteType.elem) Tryd.func162 (by kernel_rfl) (by kernel_rfl) (by kernel_rfl) (by kernel_rfl)
  have h38 := @run_callFunc_extern Tryd.prog 163 _ (ReflectliteType.relation "Implements" ReflectliteType.implements_) Tryd.func163 (by kernel_rfl) (by kernel_rfl) (by kernel_rfl) (by kernel_rfl)
  have h10 := @run_callFunc_extern Tryd.prog 116 _ ReflectliteType.typeOf Tryd.func116 (by kernel_rfl) (by kernel_rfl) (by kernel_rfl) (by kernel_rfl)
  have h35 := @run_callFunc_extern Tryd.prog 160 _ (ReflectliteType.relation "AssignableTo" ReflectliteType.assignableTo) Tryd.func160 (by kernel_rfl) (by kernel_rfl) (by kernel_rfl) (by kernel_rfl)
  have h11 := @run_callFunc_extern Tryd.prog 122 _ (ReflectliteValue.method (ReflectliteValue.valueError "reflectlite.Value.Elem" 0) ReflectliteValue.elem) Tryd.func122 (by kernel_rfl) (by kernel_rfl) (by kernel_rfl) (by kernel_rfl)
  have h12 := @run_callFunc_extern Tryd.prog 123 _ ReflectliteValue.set Tryd.func123 (by kernel_rfl) (by kernel_rfl) (by kernel_rfl) (by kernel_rfl)
  have tO := asTypeOfF
  have mA := asMethodAssignableTo
  have a25 := asAssignableF
  have v25 := asValueOfF
  have f6 := asValueOf
  have f7 := asType
  have mK := asMethodKind
  have mE := asMethodElem
  have mI := asMethodImplements
  have k27 := asKindPP
  have k25 := asKindP
  have e27 := asElem
  have i25 := asImplements
  have n8 := asIsNil ⟨w.heap.size, 0, none⟩ t ((w.alloc (.cells #[.pointer (some t)] 159)).alloc (.cells #[.pointer (some ⟨14, 159, none⟩), .pointer (some ⟨w.heap.size, 0, none⟩), .int .u64 150] 175)) (by simp)
  have hlt : 10 < w.heap.size := World.block_lt_of_cell? w _ hg
  have hg2 : ((w.alloc (.cells #[.pointer (some t)] 159)).alloc (.cells #[.pointer (some ⟨14, 159, none⟩), .pointer (some ⟨w.heap.size, 0, none⟩), .int .u64 150] 175)).cell? ⟨10, 0, none⟩ = some (.iface 190 (.agg #[.pointer (some ⟨14, 31, none⟩)])) := by
    rw [World.cell?_alloc_lt _ _ ⟨10, 0, none⟩ (by simp; omega), World.cell?_alloc_lt _ _ ⟨10, 0, none⟩ hlt]; exact hg
  have htl : t.block < w.heap.size := World.block_lt_of_cell? w _ ht0
  have el := asElemV ⟨w.heap.size, 0, none⟩ t (((w.alloc (.cells #[.pointer (some t)] 159)).alloc (.cells #[.pointer (some ⟨14, 159, none⟩), .pointer (some ⟨w.heap.size, 0, none⟩), .int .u64 150] 175)).alloc (.cells #[.pointer (some ⟨14, 159, none⟩), .pointer (some ⟨w.heap.size, 0, none⟩), .int .u64 150] 175)) (by rw [World.cell?_alloc_lt _ _ ⟨w.heap.size, 0, none⟩ (by simp; omega)]; simp)
  have st := asSet t ⟨w.heap.size + 1 + 1 + 1, 0, none⟩ e old ((((w.alloc (.cells #[.pointer (some t)] 159)).alloc (.cells #[.pointer (some ⟨14, 159, none⟩), .pointer (some ⟨w.heap.size, 0, none⟩), .int .u64 150] 175)).alloc (.cells #[.pointer (some ⟨14, 159, none⟩), .pointer (some ⟨w.heap.size, 0, none⟩), .int .u64 150] 175)).alloc (.cells #[.pointer (some e)] 157))
    (by rw [World.cell?_alloc_at _ _ _ _ (by simp)]; rfl)
    (by rw [World.cell?_alloc_lt _ _ t (by simp; omega), World.cell?_alloc_lt _ _ t (by simp; omega), World.cell?_alloc_lt _ _ t (by simp; omega), World.cell?_alloc_lt _ _ t htl]; exact ht0)
    (by rw [World.frozen?_alloc_old _ _ t (by simp; omega), World.frozen?_alloc_old _ _ t (by simp; omega), World.frozen?_alloc_old _ _ t (by simp; omega), World.frozen?_alloc_old _ _ t (Nat.ne_of_lt htl)]; exact hf0)
  go_enter Tryd.func89, Tryd.ntmps89
  go_wp2
  refine wp_loop_rounds 1 ?_
  rw [rounds_succ]
  go_wp2
  go_ret
  exact ⟨rfl, rfl⟩
set_option maxHeartbeats 4000000 in
theorem as_miss (e t : Addr) (w : World) (hg : w.cell? ⟨10, 0, none⟩ = some (.iface 190 (.agg #[.pointer (some ⟨14, 31, none⟩)]))) :
    Calls Tryd.prog 89 #[.iface 220 (.pointer (some e)), .iface 159 (.pointer (some t))] w fun ev w' => ev = .returned (.bool false) ∧ Below w.heap.size w w' := by
  have h6 := @run_callFunc_extern Tryd.prog 112 _ (fun args => ReflectliteValue.unpack (args.getD 0 (.tuple #[]))) Tryd.func112 (by kernel_rfl) (by kernel_rfl) (by kernel_rfl) (by kernel_rfl)
  have h7 := @run_callFunc_extern Tryd.prog 113 _ (ReflectliteValue.methodAny (ReflectliteValue.valueError "reflectlite.Value.Type" 0) (fun t _ _ _ => ReflectliteType.toType t)) Tryd.func113 (by kernel_rfl) (by kernel_rfl) (by kernel_rfl) (by kernel_rfl)
  have h8 := @run_callFunc_extern Tryd.prog 114 _ (ReflectliteValue.method (ReflectliteValue.valueError "reflectlite.Value.IsNil" 0) ReflectliteValue.isNil) Tryd.func114 (by kernel_rfl) (by kernel_rfl) (by kernel_rfl) (by kernel_rfl)
  have h27 := @run_callFunc_extern Tryd.prog 150 _ (ReflectliteType.abiMethod fun t => do pure (.int .u8 (← Rtype.kind t))) Tryd.func150 (by kernel_rfl) (by kernel_rfl) (by kernel_rfl) (by kernel_rfl)
  have h37 := @run_callFunc_extern Tryd.prog 162 _ (ReflectliteType.method ReflectliteType.elem) Tryd.func162 (by kernel_rfl) (by kernel_rfl) (by kernel_rfl) (by kernel_rfl)
  have h38 := @run_callFunc_extern Tryd.prog 163 _ (ReflectliteType.relation "Implements" ReflectliteType.implements_) Tryd.func163 (by kernel_rfl) (by kernel_rfl) (by kernel_rfl) (by kernel_rfl)
  have h10 := @run_callFunc_extern Tryd.prog 116 _ ReflectliteType.typeOf Tryd.func116 (by kernel_rfl) (by kernel_rfl) (by kernel_rfl) (by kernel_rfl)
  have h35 := @run_callFunc_extern Tryd.prog 160 _ (ReflectliteType.relation "AssignableTo" ReflectliteType.assignableTo) Tryd.func160 (by kernel_rfl) (by kernel_rfl) (by kernel_rfl) (by kernel_rfl)
  have tO := erTypeOf
  have mA := asMethodAssignableTo
  have a25 := asAssignableE
  have f6 := asValueOf
  have f7 := asType
  have mK := asMethodKind
  have mE := asMethodElem
  have mI := asMethodImplements
  have k27 := asKindPP
  have k25 := asKindP
  have e27 := asElem
  have i25 := asImplements
  have nA := noAsE
  have uE := noUnwrapE
  have vE := noUnwrapsE
  have n8 := asIsNil ⟨w.heap.size, 0, none⟩ t ((w.alloc (.cells #[.pointer (some t)] 159)).alloc (.cells #[.pointer (some ⟨14, 159, none⟩), .pointer (some ⟨w.heap.size, 0, none⟩), .int .u64 150] 175)) (by simp)
  have hlt : 10 < w.heap.size := World.block_lt_of_cell? w _ hg
  have hg2 : ((w.alloc (.cells #[.pointer (some t)] 159)).alloc (.cells #[.pointer (some ⟨14, 159, none⟩), .pointer (some ⟨w.heap.size, 0, none⟩), .int .u64 150] 175)).cell? ⟨10, 0, none⟩ = some (.iface 190 (.agg #[.pointer (some ⟨14, 31, none⟩)])) := by
    rw [World.cell?_alloc_lt _ _ ⟨10, 0, none⟩ (by simp; omega), World.cell?_alloc_lt _ _ ⟨10, 0, none⟩ hlt]; exact hg
  go_enter Tryd.func89, Tryd.ntmps89
  go_wp2
  refine wp_loop_rounds 1 ?_
  rw [rounds_succ]
  go_wp2
  go_ret
  exact ⟨rfl, ((((Below.refl _ w).alloc (Nat.le_refl _) _).alloc (by simp) _).alloc (by simp; omega) _)⟩
end Go.Proofs.YtmbjhpgemphmmaaDoor
namespace Go.Proofs.YtmbjhpgemphmmaaDoor
open Go.RowKit

theorem code_nil (w : World) : Calls Tryd.prog 52 #[.nilIface] w fun e w' => e = .returned (.tuple #[.int .i64 0, .int .i64 (-1)]) ∧ w = w' := by
  go_enter Tryd.func52, Tryd.ntmps52
  go_wp2
  go_ret2
  exact ⟨rfl, rfl⟩
theorem is_sent {w : World} {ea : Nat → Addr} {B : Nat} (h : Errs w ea B) {j k : Nat} (hj : 1 ≤ j) (hj9 : j ≤ 9) (hk : 1 ≤ k) (hk9 : k ≤ 9) :
    Calls Tryd.prog 90 #[errV ea j, errV ea k] w fun e w' => e = .returned (.bool (decide (j = k))) ∧ w = w' := by
  unfold errV
  rw [if_neg (by omega), if_neg (by omega)]
  by_cases hjk : j = k
  · subst hjk
    rw [decide_eq_true rfl]
    exact is_same _ w
  · rw [decide_eq_false hjk]
    obtain ⟨_, c, t, hc⟩ := h.held j hj hj9
    obtain ⟨_, c', t', hc'⟩ := h.held k hk hk9
    exact is_other _ _ c c' t t' w (h.apart j k hj hj9 hk hk9 hjk) hc hc'
def CPost (w : World) (n at_ : Int) (e : Ending) (w' : World) : Prop := e = .returned (.tuple #[.int .i64 n, .int .i64 at_]) ∧ Below w.heap.size w w'
set_option maxHeartbeats 800000 in
theorem code_sent {w : World} {ea : Nat → Addr} {B : Nat} (h : Errs w ea B) (hB : B ≤ w.heap.size) {k : Nat} (hk : 1 ≤ k) (hk9 : k ≤ 9) :
    Calls Tryd.prog 52 #[errV ea k] w (CPost w k (-1)) := by
  have he : errV ea k = .iface 220 (.pointer (some (ea k))) := by unfold errV; rw [if_neg (by omega)]
  rw [he]
  have H := Lib.hid h
  have HE := Lib.hid he
  have HB := Lib.hid hB
  have A1 := Lib.hid (as_miss (ea k) ⟨w.heap.size, 0, none⟩ (w.alloc (.cells #[.pointer none] 157)) (by rw [World.cell?_alloc_lt _ _ ⟨_, 0, none⟩ (Nat.lt_of_lt_of_le h.etlow hB)]; exact h.et))
  clear h he hB
  go_enter Tryd.func52, Tryd.ntmps52
  go_wp2_with fail
  refine A1.out.mono ?_
  rintro e w1 ⟨rfl, hb1⟩
  have hbw : Below w.heap.size w w1 := ((Below.refl _ w).alloc (Nat.le_refl _) _).trans (hb1.mono (by simp))
  have h1 : Errs w1 ea B := H.out.below (hbw.mono HB.out)
  have g1 : w1.cell? ⟨5, 0, none⟩ = some (.iface 220 (.pointer (some (ea 1)))) := h1.var 1 (by decide) (by decide)
  have g2 : w1.cell? ⟨2, 0, none⟩ = some (.iface 220 (.pointer (some (ea 2)))) := h1.var 2 (by decide) (by decide)
  have g3 : w1.cell? ⟨0, 0, none⟩ = some (.iface 220 (.pointer (some (ea 3)))) := h1.var 3 (by decide) (by decide)
  have g4 : w1.cell? ⟨6, 0, none⟩ = some (.iface 220 (.pointer (some (ea 4)))) := h1.var 4 (by decide) (by decide)
  have g5 : w1.cell? ⟨1, 0, none⟩ = some (.iface 220 (.pointer (some (ea 5)))) := h1.var 5 (by decide) (by decide)
  have g6 : w1.cell? ⟨7, 0, none⟩ = some (.iface 220 (.pointer (some (ea 6)))) := h1.var 6 (by decide) (by decide)
  have g7 : w1.cell? ⟨8, 0, none⟩ = some (.iface 220 (.pointer (some (ea 7)))) := h1.var 7 (by decide) (by decide)
  have g8 : w1.cell? ⟨9, 0, none⟩ = some (.iface 220 (.pointer (some (ea 8)))) := h1.var 8 (by decide) (by decide)
  have g9 : w1.cell? ⟨3, 0, none⟩ = some (.iface 220 (.pointer (some (ea 9)))) := h1.var 9 (by decide) (by decide)
  have HH := Lib.hid h1
  have HBW := Lib.hid hbw
  clear hb1 h1 hbw
  go_wp2_with fail
  obtain ⟨w2, hw2⟩ : ∃ w2, w2 = w1.alloc (.cells #[.iface 220 (.pointer (some (ea 1))), .iface 220 (.pointer (some (ea 2))), .iface 220 (.pointer (some (ea 3))), .iface 220 (.pointer (some (ea 4))), .iface 220 (.pointer (some (ea 5))), .iface 220 (.pointer (some (ea 6))), .iface 220 (.pointer (some (ea 7))), .iface 220 (.pointer (some (ea 8))), .iface 220 (.pointer (some (ea 9)))] 31) := ⟨_, rfl⟩
  rw [← hw2]
  have hcell : ∀ j : Nat, j < 9 → w2.cell? ⟨w1.heap.size, j, none⟩ = some (.iface 220 (.pointer (some (ea (j + 1))))) := fun j hj => by
    rw [hw2, (Blk.new w1 _ _).cell j]
    match j, hj with
    | 0, _ => rfl
    | 1, _ => rfl
    | 2, _ => rfl
    | 3, _ => rfl
    | 4, _ => rfl
    | 5, _ => rfl
    | 6, _ => rfl
    | 7, _ => rfl
    | 8, _ => rfl
  have hb2 : Below w.heap.size w w2 := by rw [hw2]; exact HBW.out.alloc HBW.out.size _
  have HC := Lib.hid hcell
  have HB2 := Lib.hid hb2
  have HER := Lib.hid (H.out.below (hb2.mono HB.out))
  clear hcell hb2 hw2 g1 g2 g3 g4 g5 g6 g7 g8 g9
  go_loop [3, 27] (fun t i => ∃ j : Nat, j < k ∧ t = .int .i64 (-1) ∧ i = .int .i64 j) (fun _ i => 9 - (intOf i).toNat)
  case atStart => exact ⟨0, by omega, rfl, rfl⟩
  case round =>
    obtain ⟨j, hj, rfl, rfl⟩ := hrel
    have hj9 : j < 9 := by omega
    have hc := HC.out j hj9
    have his := is_sent HER.out hk hk9 (show 1 ≤ j + 1 by omega) (show j + 1 ≤ 9 by omega)
    unfold errV at his
    rw [if_neg (by omega), if_neg (by omega)] at his
    by_cases hjk : k = j + 1
    · rw [decide_eq_true hjk] at his
      have HIS := Lib.hid his
      have HJK := Lib.hid hjk
      clear his hjk
      go_wp2_with fail
      refine HIS.out.mono ?_
      rintro e w' ⟨rfl, rfl⟩
      go_wp2
      go_ret2
      exact ⟨by rw [HJK.out]; simp, HB2.out⟩
    · rw [decide_eq_false hjk] at his
      have HIS := Lib.hid his
      clear his
      go_wp2_with fail
      refine HIS.out.mono ?_
      rintro e w' ⟨rfl, rfl⟩
      go_wp2
      go_round
      case rel => exact ⟨j + 1, by omega, rfl, by go_num⟩
      case measure => simp [intOf]; omega

theorem coded_nil (w : World) (c : Int) (hc : (0 : Int) = c) : Calls Tryd.prog 21 #[.nilIface, .int .i64 c] w fun e w' => e = .returned (.bool true) ∧ w = w' := by
  subst hc
  go_enter Tryd.func21, Tryd.ntmps21
  go_wp2_with (go_at_call 52; refine (code_nil _).mono ?_; rintro e w' ⟨rfl, rfl⟩)
  go_ret
  exact ⟨rfl, rfl⟩
theorem coded_sent {w : World} {ea : Nat → Addr} {B : Nat} (h : Errs w ea B) (hB : B ≤ w.heap.size) {k : Nat} (hk : 1 ≤ k) (hk9 : k ≤ 9) :
    Calls Tryd.prog 21 #[errV ea k, .int .i64 k] w fun e w' => e = .returned (.bool true) ∧ Below w.heap.size w w' := by
  have C := Lib.hid (code_sent h hB hk hk9)
  clear h hB
  go_enter Tryd.func21, Tryd.ntmps21
  go_wp2_with fail
  refine C.out.mono ?_
  rintro e w1 ⟨rfl, hb⟩
  have HB := Lib.hid hb
  clear hb
  go_wp2
  go_ret
  exact ⟨by simp, HB.out⟩
end Go.Proofs.YtmbjhpgemphmmaaDoor
