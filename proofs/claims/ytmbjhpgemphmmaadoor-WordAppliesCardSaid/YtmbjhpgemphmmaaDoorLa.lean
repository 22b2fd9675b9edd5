/-
  WHAT THE ROWS' LISTS GIVE: the sentinel errors and the handle of errors.errorType, as the walks want them (Errs); a start for the witness.
-/
import Derived.Test.YtmbjhpgemphmmaaDoorGr
import Derived.Test.YtmbjhpgemphmmaaDoorCards
import Derived.Test.YtmbjhpgemphmmaaDoorTie
import Derived.WalkKit
import Derived.ProofKit
import Derived.OpenShut
import Derived.Deep.DeepHandedRow
import Derived.Deep.DeepWitnessRowRef
import Derived.Lib.LaidTab
import Derived.Lib.SmallJoins
import Derived.LaidMore
import Derived.LaidLaws
import Derived.LaidHandle
import Derived.LaidSub
import Derived.Stop.LaidErr
namespace Go.Proofs.YtmbjhpgemphmmaaDoor
open Go.ChangeShapes Go.WideShapes Go.ChangeAt Go.RowKit

theorem laidVars_mem {P : Program} {w : World} {n : String} {d : DataW Unit} : ∀ {l : List (String × DataW Unit)} {ps : List MemPlace}, DataW.LaidVars P w l ps → (n, d) ∈ l →
    ∃ g t cs fuel p, P.globalNamed n = some g ∧ (P.globals[g]?).map (·.type) = some t ∧ w.var? P n = some cs ∧ DataW.trod (fun _ => ()) P w 0 (fun _ => true) false fuel t cs.toList = some (d, p) ∧
      ∀ x ∈ MemPlace.row ⟨g, 0, none⟩ cs.size ++ p, x ∈ ps
  | [], _, _, hm => by cases hm
  | (n', d') :: r, ps, h, hm => by
    obtain ⟨g, t, cs, fuel, p, q, e1, e2, e3, e4, hr, rfl⟩ := h
    rcases List.mem_cons.1 hm with he | hm'
    · obtain ⟨rfl, rfl⟩ := Prod.mk.inj he
      exact ⟨g, t, cs, fuel, p, e1, e2, e3, e4, fun x hx => List.mem_append_left _ hx⟩
    · obtain ⟨g', t', cs', f', p', k1, k2, k3, k4, k5⟩ := laidVars_mem hr hm'
      exact ⟨g', t', cs', f', p', k1, k2, k3, k4, fun x hx => List.mem_append_right _ (k5 x hx)⟩

/-- the datum of a sentinel -/
def sentD (text : List UInt8) : DataW Unit := .iface "*errors.errorString" (.ptr (.agg [.lit (.string text)]))
theorem sentD_plain (text : List UInt8) : (sentD text).handleName?.isNone = true := by
  unfold sentD DataW.handleName?
  simp
theorem own : ownKnob Tryd.prog.godebug = none := by kernel_rfl
theorem star : "*" ++ "errors.errorString" = "*errors.errorString" := by decide
theorem hStr (u : TypeId) (h : Tryd.prog.typeName? 3 u = some "*errors.errorString") : u = 220 := typeName_ptr_named (nm := "errors.errorString") (by rw [star]; kernel_rfl) (by kernel_rfl) (by decide) u (by rw [star]; exact h)
theorem cES : Tryd.prog.cellsOf 238 = 1 := by kernel_rfl
theorem cS : Tryd.prog.cellsOf 9 = 1 := by kernel_rfl
theorem sent_any {P : Program} {W : World} {l : List (String × DataW Unit)} (h : laidMetH P l W) {n : String} {text : List UInt8} {g ti tp te ts : Nat} {ms : Array (String × TypeId)} {f : Field} (hm : (n, sentD text) ∈ l)
    (hg : P.globalNamed n = some g) (ht : (P.globals[g]?).map (·.type) = some ti) (hi : P.underlying ti = some (.interface ms)) (hrow : ∀ u, P.typeName? 3 u = some "*errors.errorString" → u = tp)
    (hp : P.underlying tp = some (.pointer te)) (he : P.underlying te = some (.struct #[f])) (hft : f.type = ts) (hfo : f.offset = 0) (hs : P.underlying ts = some .string) (hc : P.cellsOf te = 1) (hcs : P.cellsOf ts = 1) :
    ∃ (a : Addr) (s : ByteArray), W.cell? ⟨g, 0, none⟩ = some (.iface tp (.pointer (some a))) ∧ W.cell? a = some (.string s) ∧ s.data.toList = text ∧ ∃ c t, W.heap[a.block]? = some (.cells c t (0, 0)) := by
  obtain ⟨ps, hl, _, hrows⟩ := (laidMetH_iff.1 h).1
  have hmf : (n, sentD text) ∈ l.filter fun x => x.2.handleName?.isNone := List.mem_filter.2 ⟨hm, sentD_plain text⟩
  obtain ⟨g', t', cs, fuel, p, k1, k2, k3, k4, k5⟩ := laidVars_mem hl hmf
  clear hmf hm
  obtain rfl := Option.some.inj (hg.symm.trans k1)
  obtain rfl := Option.some.inj (ht.symm.trans k2)
  have hc0 := World.var?_cell hg k3 0
  obtain ⟨cl⟩ := cs
  obtain ⟨a, s, rfl, hc, hs, _, rfl⟩ := errorString_of_trod hi hrow hp he hft hfo hs hc hcs k4 (fun u v e => by
    have e' : cl = [.iface u v] := e
    subst e'
    have hm0 : MemPlace.cell g 0 ∈ ps := k5 _ (by simp [MemPlace.row])
    have hc1 : W.cell? ⟨g, 0, none⟩ = some (.iface u v) := by simpa using hc0
    exact (hrows g 0 hm0).2 u v hc1)
  exact ⟨a, s, by simpa using hc0, hc, hs, (hrows a.block a.off (k5 _ (by simp [MemPlace.row]))).1⟩
theorem sent_of_laid {W : World} {l : List (String × DataW Unit)} (h : laidMetH Tryd.prog l W) {n : String} {text : List UInt8} {g : Nat} (hm : (n, sentD text) ∈ l)
    (hg : Tryd.prog.globalNamed n = some g) (ht : (Tryd.prog.globals[g]?).map (·.type) = some 31) :
    ∃ (a : Addr) (s : ByteArray), W.cell? ⟨g, 0, none⟩ = some (.iface 220 (.pointer (some a))) ∧ W.cell? a = some (.string s) ∧ s.data.toList = text ∧ ∃ c t, W.heap[a.block]? = some (.cells c t (0, 0)) :=
  sent_any h hm hg ht Tryd.underlying31 hStr Tryd.underlying220 Tryd.underlying238 rfl rfl Tryd.underlying9 cES cS
/-- the handle's cell -/
theorem handle_any {P : Program} {W : World} {l : List (String × DataW Unit)} (h : laidMetH P l W) {u ty size : Nat} {d : DataW Unit} (hd : d = .iface "internal/reflectlite.rtype" (.agg [.ptr (.lit (.string [101, 114, 114, 111, 114]))])) (hm : ("errors.errorType", d) ∈ l)
    (hs : P.types.size = size) (hrt : (P.cutTypes.find? (·.1 == "internal/reflectlite.rtype")).map (·.2) = some u) (hone : ((List.range size).filter fun t => P.rowNamed t [101, 114, 114, 111, 114]) = [ty]) {g : Nat} (hg : P.globalNamed "errors.errorType" = some g) :
    W.cell? ⟨g, 0, none⟩ = some (.iface u (.agg #[typeHandle P ty])) := by
  have hf : d.funcsIn? = none := by rw [hd]; rfl
  have hn : d.handleName? = some [101, 114, 114, 111, 114] := by rw [hd]; rfl
  have h2 := (laidMetH_iff.1 h).2 ("errors.errorType", d) (List.mem_filter.2 ⟨hm, by rw [hn]; rfl⟩)
  simp only [hf] at h2
  obtain ⟨name, u', ty', e1, e2, e3, e4, e5⟩ := h2
  obtain rfl := Option.some.inj (hn.symm.trans e1)
  obtain rfl := Option.some.inj (hrt.symm.trans e2)
  have hm : ty' ∈ (List.range size).filter fun t => P.rowNamed t [101, 114, 114, 111, 114] := List.mem_filter.2 ⟨List.mem_range.2 (by rw [← hs]; exact e3), e4⟩
  rw [hone] at hm
  obtain rfl := List.mem_singleton.1 hm
  simpa using World.var?_cell hg e5 0
/-- the sentinels' texts -/
def errText : Nat → List UInt8
  | 1 => [108, 117, 115, 116, 114, 117, 109, 58, 32, 116, 101, 120, 116]
  | 2 => [108, 117, 115, 116, 114, 117, 109, 58, 32, 98, 111, 117, 110, 100]
  | 3 => [108, 117, 115, 116, 114, 117, 109, 58, 32, 115, 104, 97, 112, 101]
  | 4 => [108, 117, 115, 116, 114, 117, 109, 58, 32, 110, 97, 109, 101]
  | 5 => [108, 117, 115, 116, 114, 117, 109, 58, 32, 116, 121, 112, 101]
  | 6 => [108, 117, 115, 116, 114, 117, 109, 58, 32, 99, 121, 99, 108, 101]
  | 7 => [108, 117, 115, 116, 114, 117, 109, 58, 32, 102, 105, 114, 115, 116]
  | 8 => [108, 117, 115, 116, 114, 117, 109, 58, 32, 112, 114, 111, 111, 102]
  | _ => [108, 117, 115, 116, 114, 117, 109, 58, 32, 110, 111, 110, 101]
theorem errText_ne : ∀ j k : Fin 10, 1 ≤ j.val → 1 ≤ k.val → j ≠ k → errText j.val ≠ errText k.val := by decide +kernel
def errList : List (String × DataW Unit) := [("errors.errorType", Rows.laid_errors_errorType), ("lustrum/api.ErrText", Rows.laid_lustrum_api_ErrText), ("lustrum/api.ErrBound", Rows.laid_lustrum_api_ErrBound), ("lustrum/api.ErrShape", Rows.laid_lustrum_api_ErrShape), ("lustrum/api.ErrName", Rows.laid_lustrum_api_ErrName), ("lustrum/api.ErrType", Rows.laid_lustrum_api_ErrType), ("lustrum/api.ErrCycle", Rows.laid_lustrum_api_ErrCycle), ("lustrum/api.ErrFirst", Rows.laid_lustrum_api_ErrFirst), ("lustrum/api.ErrProof", Rows.laid_lustrum_api_ErrProof), ("lustrum/api.ErrNone", Rows.laid_lustrum_api_ErrNone)]
theorem et_g : Tryd.prog.globalNamed "errors.errorType" = some 10 := by kernel_rfl
theorem et_size : Tryd.prog.types.size = Tryd.prog.types.size := rfl
theorem et_rt : (Tryd.prog.cutTypes.find? (·.1 == "internal/reflectlite.rtype")).map (·.2) = some 190 := by kernel_rfl
theorem et_one : ((List.range Tryd.prog.types.size).filter fun t => Tryd.prog.rowNamed t [101, 114, 114, 111, 114]) = [31] := by kernel_rfl
theorem et_handle : typeHandle Tryd.prog 31 = .pointer (some ⟨14, 31, none⟩) := by kernel_rfl
theorem api_g : ∀ k, 1 ≤ k → k ≤ 9 → Tryd.prog.globalNamed ("lustrum/api." ++ (["", "ErrText", "ErrBound", "ErrShape", "ErrName", "ErrType", "ErrCycle", "ErrFirst", "ErrProof", "ErrNone"].getD k "")) = some (gvar k) ∧ (Tryd.prog.globals[gvar k]?).map (·.type) = some 31 := by
  intro k h1 h2
  have : k = 1 ∨ k = 2 ∨ k = 3 ∨ k = 4 ∨ k = 5 ∨ k = 6 ∨ k = 7 ∨ k = 8 ∨ k = 9 := by omega
  rcases this with rfl | rfl | rfl | rfl | rfl | rfl | rfl | rfl | rfl <;> exact ⟨by kernel_rfl, by kernel_rfl⟩
theorem api_in : ∀ k, 1 ≤ k → k ≤ 9 → ("lustrum/api." ++ (["", "ErrText", "ErrBound", "ErrShape", "ErrName", "ErrType", "ErrCycle", "ErrFirst", "ErrProof", "ErrNone"].getD k ""), sentD (errText k)) ∈ errList := by
  intro k h1 h2
  have : k = 1 ∨ k = 2 ∨ k = 3 ∨ k = 4 ∨ k = 5 ∨ k = 6 ∨ k = 7 ∨ k = 8 ∨ k = 9 := by omega
  have key : ∀ (i : Nat) (x : String × DataW Unit), errList[i]? = some x → x ∈ errList := fun i x h => List.mem_of_getElem? h
  rcases this with rfl | rfl | rfl | rfl | rfl | rfl | rfl | rfl | rfl
  · exact key 1 _ rfl
  · exact key 2 _ rfl
  · exact key 3 _ rfl
  · exact key 4 _ rfl
  · exact key 5 _ rfl
  · exact key 6 _ rfl
  · exact key 7 _ rfl
  · exact key 8 _ rfl
  · exact key 9 _ rfl
/-- WHAT THE LIST GIVES A WALK. -/
theorem errs_of_laid {W : World} {l : List (String × DataW Unit)} (h : laidMetH Tryd.prog l W) (hsub : ∀ x ∈ errList, x ∈ l) : ∃ ea, Errs W ea W.heap.size := by
  have all : ∀ k : Nat, ∃ a : Addr, 1 ≤ k → k ≤ 9 → W.cell? ⟨gvar k, 0, none⟩ = some (.iface 220 (.pointer (some a))) ∧ (∃ s : ByteArray, W.cell? a = some (.string s) ∧ s.data.toList = errText k) ∧ ∃ c t, W.heap[a.block]? = some (.cells c t (0, 0)) := by
    intro k
    by_cases hk : 1 ≤ k ∧ k ≤ 9
    · obtain ⟨h1, h2⟩ := api_g k hk.1 hk.2
      obtain ⟨a, s, e1, e2, e3, e4⟩ := sent_of_laid h (hsub _ (api_in k hk.1 hk.2)) h1 h2
      exact ⟨a, fun _ _ => ⟨e1, ⟨s, e2, e3⟩, e4⟩⟩
    · exact ⟨⟨0, 0, none⟩, fun h1 h2 => absurd ⟨h1, h2⟩ hk⟩
  obtain ⟨ea, hea⟩ := Classical.axiomOfChoice all
  have hvar : ∀ k, 1 ≤ k → k ≤ 9 → W.cell? ⟨gvar k, 0, none⟩ = some (errV ea k) := fun k h1 h2 => by
    rw [(hea k h1 h2).1]
    match k, h1 with
    | k + 1, _ => rfl
  have het := handle_any h rfl (hsub _ (List.mem_of_getElem? (i := 0) rfl)) rfl et_rt et_one et_g
  rw [et_handle] at het
  refine ⟨ea, hvar, fun k => ?_, fun k h1 h2 => ?_, fun j k j1 j2 k1 k2 hne he => ?_, het, World.block_lt_of_cell? _ _ het⟩
  · by_cases hk : 1 ≤ k ∧ k ≤ 9
    · exact World.block_lt_of_cell? _ _ (hvar k hk.1 hk.2)
    · have e : gvar k = gvar 9 := by
        match k, hk with
        | 0, _ => rfl
        | k + 9, hk =>
          match k, hk with
          | 0, _ => rfl
          | k + 1, _ => rfl
      rw [e]
      exact World.block_lt_of_cell? _ _ (hvar 9 (by decide) (by decide))
  · obtain ⟨_, ⟨s, hc, _⟩, h3⟩ := hea k h1 h2
    exact ⟨World.block_lt_of_cell? _ _ hc, h3⟩
  · obtain ⟨_, ⟨s, hc, hs⟩, _⟩ := hea j j1 j2
    obtain ⟨_, ⟨s', hc', hs'⟩, _⟩ := hea k k1 k2
    rw [he, hc'] at hc
    obtain rfl : s' = s := by simpa using hc
    exact errText_ne ⟨j, by omega⟩ ⟨k, by omega⟩ j1 k1 (by simpa using hne) (hs.symm.trans hs')
/-- A START FOR THE WITNESS: what the door lays. -/
theorem door_met (os : Os) (args : Array Value) : laidMetH Tryd.prog errList ((World.doorLaid Tryd.prog 260 os).forCall (fun _ _ => 0) ⟨#[], args, []⟩).memory :=
  laidMetH_of_parts (laidMet_of_run' 8 (by kernel_rfl) (by kernel_rfl)) (by kernel_rfl)
end Go.Proofs.YtmbjhpgemphmmaaDoor
