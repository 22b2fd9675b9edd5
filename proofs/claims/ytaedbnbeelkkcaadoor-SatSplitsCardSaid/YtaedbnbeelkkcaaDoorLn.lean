/-
  WHAT THE ROWS' LISTS GIVE: sentinel errors, tables; a law that answers true (for seats without the graph).
-/
import Derived.Test.YtaedbnbeelkkcaaDoorBa
import Derived.Test.YtaedbnbeelkkcaaDoorProg
import Derived.Test.YtaedbnbeelkkcaaDoorLo
import Derived.Test.YtaedbnbeelkkcaaDoorLp
import Derived.Test.YtaedbnbeelkkcaaDoorCards
import Derived.Test.YtaedbnbeelkkcaaDoorTie
import Derived.Deep.Grids
import Derived.WalkKit
import Derived.ProofKit
import Derived.OpenShut
import Derived.Deep.DeepHandedRow
import Derived.Deep.DeepWitnessRowRef
import Derived.Lib.LaidTab
import Derived.Lib.SmallJoins
import Derived.LaidMore
import Derived.LaidLaws
import Derived.LaidHandle
import Derived.LaidSub
import Derived.Stop.LaidErr
namespace Go.Proofs.YtaedbnbeelkkcaaDoor
open Go.ChangeShapes Go.WideShapes Go.ChangeAt Go.RowKit

theorem laidVars_mem {P : Program} {w : World} {n : String} {d : DataW Unit} : ∀ {l : List (String × DataW Unit)} {ps : List MemPlace}, DataW.LaidVars P w l ps → (n, d) ∈ l →
    ∃ g t cs fuel p, P.globalNamed n = some g ∧ (P.globals[g]?).map (·.type) = some t ∧ w.var? P n = some cs ∧ DataW.trod (fun _ => ()) P w 0 (fun _ => true) false fuel t cs.toList = some (d, p) ∧
      ∀ x ∈ MemPlace.row ⟨g, 0, none⟩ cs.size ++ p, x ∈ ps
  | [], _, _, hm => by cases hm
  | (n', d') :: r, ps, h, hm => by
    obtain ⟨g, t, cs, fuel, p, q, e1, e2, e3, e4, hr, rfl⟩ := h
    rcases List.mem_cons.1 hm with he | hm'
    · obtain ⟨rfl, rfl⟩ := Prod.mk.inj he
      exact ⟨g, t, cs, fuel, p, e1, e2, e3, e4, fun x hx => List.mem_append_left _ hx⟩
    · obtain ⟨g', t', cs', f', p', k1, k2, k3, k4, k5⟩ := laidVars_mem hr hm'
      exact ⟨g', t', cs', f', p', k1, k2, k3, k4, fun x hx => List.mem_append_right _ (k5 x hx)⟩

/-- the datum of a sentinel -/
def sentD (text : List UInt8) : DataW Unit := .iface "*errors.errorString" (.ptr (.agg [.lit (.string text)]))
theorem sentD_plain (text : List UInt8) : (sentD text).handleName?.isNone = true := by
  unfold sentD DataW.handleName?
  simp
theorem own : ownKnob Tryd.prog.godebug = none := by kernel_rfl
theorem star : "*" ++ "errors.errorString" = "*errors.errorString" := by decide
theorem hStr (u : TypeId) (h : Tryd.prog.typeName? 3 u = some "*errors.errorString") : u = 143 := typeName_ptr_named (nm := "errors.errorString") (by rw [star]; kernel_rfl) (by kernel_rfl) (by decide) u (by rw [star]; exact h)
theorem cES : Tryd.prog.cellsOf 163 = 1 := by kernel_rfl
theorem cS : Tryd.prog.cellsOf 9 = 1 := by kernel_rfl
theorem sent_any {P : Program} {W : World} {l : List (String × DataW Unit)} (h : laidMetH P l W) {n : String} {text : List UInt8} {g ti tp te ts : Nat} {ms : Array (String × TypeId)} {f : Field} (hm : (n, sentD text) ∈ l)
    (hg : P.globalNamed n = some g) (ht : (P.globals[g]?).map (·.type) = some ti) (hi : P.underlying ti = some (.interface ms)) (hrow : ∀ u, P.typeName? 3 u = some "*errors.errorString" → u = tp)
    (hp : P.underlying tp = some (.pointer te)) (he : P.underlying te = some (.struct #[f])) (hft : f.type = ts) (hfo : f.offset = 0) (hs : P.underlying ts = some .string) (hc : P.cellsOf te = 1) (hcs : P.cellsOf ts = 1) :
    ∃ (a : Addr) (s : ByteArray), W.cell? ⟨g, 0, none⟩ = some (.iface tp (.pointer (some a))) ∧ W.cell? a = some (.string s) ∧ s.data.toList = text ∧ ∃ c t, W.heap[a.block]? = some (.cells c t (0, 0)) := by
  obtain ⟨ps, hl, _, hrows⟩ := (laidMetH_iff.1 h).1
  have hmf : (n, sentD text) ∈ l.filter fun x => x.2.handleName?.isNone := List.mem_filter.2 ⟨hm, sentD_plain text⟩
  obtain ⟨g', t', cs, fuel, p, k1, k2, k3, k4, k5⟩ := laidVars_mem hl hmf
  clear hmf hm
  obtain rfl := Option.some.inj (hg.symm.trans k1)
  obtain rfl := Option.some.inj (ht.symm.trans k2)
  have hc0 := World.var?_cell hg k3 0
  obtain ⟨cl⟩ := cs
  obtain ⟨a, s, rfl, hc, hs, _, rfl⟩ := errorString_of_trod hi hrow hp he hft hfo hs hc hcs k4 (fun u v e => by
    have e' : cl = [.iface u v] := e
    subst e'
    have hm0 : MemPlace.cell g 0 ∈ ps := k5 _ (by simp [MemPlace.row])
    have hc1 : W.cell? ⟨g, 0, none⟩ = some (.iface u v) := by simpa using hc0
    exact (hrows g 0 hm0).2 u v hc1)
  exact ⟨a, s, by simpa using hc0, hc, hs, (hrows a.block a.off (k5 _ (by simp [MemPlace.row]))).1⟩
theorem sent_of_laid {W : World} {l : List (String × DataW Unit)} (h : laidMetH Tryd.prog l W) {n : String} {text : List UInt8} {g : Nat} (hm : (n, sentD text) ∈ l)
    (hg : Tryd.prog.globalNamed n = some g) (ht : (Tryd.prog.globals[g]?).map (·.type) = some 32) :
    ∃ (a : Addr) (s : ByteArray), W.cell? ⟨g, 0, none⟩ = some (.iface 143 (.pointer (some a))) ∧ W.cell? a = some (.string s) ∧ s.data.toList = text ∧ ∃ c t, W.heap[a.block]? = some (.cells c t (0, 0)) :=
  sent_any h hm hg ht Tryd.underlying32 hStr Tryd.underlying143 Tryd.underlying163 rfl rfl Tryd.underlying9 cES cS
theorem tabData_plain {H : Type} (k : IntKind) (zs : List Int) : ((Lib.tabData k zs : DataW H)).handleName?.isNone = true := by
  unfold Lib.tabData DataW.handleName?
  simp
/-- a table that lies in the list -/
theorem tab_of_laid {P : Program} {W : World} {l : List (String × DataW Unit)} (h : laidMetH P l W) {name : String} {k : IntKind} {zs : List Int} {g : Nat} {t e : TypeId} {n : Nat} (hm : (name, Lib.tabData k zs) ∈ l)
    (hg : P.globalNamed name = some g) (hty : (P.globals[g]?).map (·.type) = some t) (ht : P.underlying t = some (.array n e)) (he : P.underlying e = some (.int k)) (hce : P.cellsOf e = 1) (hct : P.cellsOf t = n) : Lib.TabIs P W name k zs := by
  obtain ⟨ps, hl, _, _⟩ := (laidMetH_iff.1 h).1
  obtain ⟨g', t', cs, fuel, p, k1, k2, k3, k4, _⟩ := laidVars_mem hl (List.mem_filter.2 ⟨hm, tabData_plain k zs⟩)
  obtain rfl := Option.some.inj (hg.symm.trans k1)
  obtain rfl := Option.some.inj (hty.symm.trans k2)
  unfold Lib.TabIs
  rw [k3, ← Lib.cells_of_tab ht he hce hct k4]
end Go.Proofs.YtaedbnbeelkkcaaDoor
namespace Go.Proofs.YtaedbnbeelkkcaaDoor
open Go.ChangeShapes Go.WideShapes Go.ChangeAt Go.RowKit Go.Deep
section
variable {H : Type} {enc : TypeId × Value → H} {P : Program}
theorem trodAll_stays (hl : laidOutB P = true) {W W' : World} (hb : Below W.heap.size W W') (sp : Nat → Bool) : ∀ {ts : List TypeId} {vs : List Value} {ds : List (DataW H)} {ps : List MemPlace},
    DataW.TrodAll enc P W 0 (fun _ => true) true ts vs ds ps → (∀ t ∈ ts, P.readableRec t = true ∧ t < P.types.size) → (∀ x ∈ ps, x.block < W.heap.size) → (∀ x ∈ ps, sp x.block = true) → DataW.TrodAll enc P W' 0 sp true ts vs ds ps
  | [], vs, ds, ps, h, _, _, _ => by
    obtain ⟨rfl, rfl, rfl⟩ := trodAll_nil h
    exact trodAll_mk0
  | t :: ts, vs, ds, ps, h, ht, hlt, hsp => by
    obtain ⟨v, vs', d, ds', p, q, rfl, rfl, rfl, h1, h2⟩ := trodAll_cons h
    obtain ⟨hr, hrow⟩ := ht t (List.mem_cons_self ..)
    refine trodAll_cons_mk (WideElems.Trod_stays hl hr hrow h1 (fun x hx => hb.same (hlt x (List.mem_append_left _ hx))) fun x hx => hsp x (List.mem_append_left _ hx)) ?_
    exact trodAll_stays hl hb sp h2 (fun t' ht' => ht t' (List.mem_cons_of_mem _ ht')) (fun x hx => hlt x (List.mem_append_right _ hx)) fun x hx => hsp x (List.mem_append_right _ hx)
theorem trodAll_len {W : World} {base : Nat} {sp : Nat → Bool} {held : Bool} : ∀ {ts : List TypeId} {vs : List Value} {ds : List (DataW H)} {ps : List MemPlace}, DataW.TrodAll enc P W base sp held ts vs ds ps → ds.length = ts.length
  | [], _, _, _, h => by obtain ⟨rfl, rfl, rfl⟩ := trodAll_nil h; rfl
  | t :: ts, _, _, _, h => by
    obtain ⟨v, vs', d, ds', p, q, rfl, rfl, rfl, h1, h2⟩ := trodAll_cons h
    simp [trodAll_len h2]
/-- THE ROW's CONTRACT OF A LAW that answers true and leaves memory as it was -/
theorem post_true {f : Func} {s : ChangeSpec} {apart fresh handsOn again : Bool} {W W' : World} {args : Array Value} {ds gs : List (DataW H)} {before : List MemPlace} {tb : TypeId}
    (hl : laidOutB P = true) (hpar : ∀ t ∈ f.params.toList, P.readableRec t = true ∧ t < P.types.size) (hv : s.vars = []) (hr : f.resultTypes = #[tb]) (hbool : P.underlying tb = some .bool)
    (hfn : ∀ ds : List (DataW H), ds.length = f.params.toList.length → s.fn H ds = { results := [.lit (.bool true)], args := ds })
    (hW : DataW.Whole enc P f.params.toList s.vars apart W args.toList ds gs before) (hb : Below W.heap.size W W') :
    s.post enc P f apart fresh handsOn again W args (.bool true) W' := by
  obtain ⟨p, q, hA, hV, hbe, _, _⟩ := id hW
  have hV' := hV
  rw [hv] at hV'
  obtain ⟨rfl, rfl⟩ := trodVars_none hV'
  have hlt : ∀ x ∈ before, x.block < W.heap.size := fun x hx => hW.lt x hx
  have e1 := hfn (ds ++ []) (by rw [List.append_nil]; exact trodAll_len hA)
  refine post_of_below (pa := p) (pv := []) hW (fun _ _ _ => ?_) (fun sp hsp => ?_) (fun _ _ => ?_) hbe hb ?_
  · rw [e1, hr]
    exact trodAll_mk1 (shut_bool hbool true)
  · rw [e1, List.append_nil]
    exact trodAll_stays hl hb sp hA hpar (fun x hx => hlt x (by rw [hbe]; simpa using hx)) fun x hx => hsp x (by rw [hbe]; simpa using hx)
  · rw [e1, hv]
    rfl
  · exact ok_one hr rfl (okWide_bool_mk hbool _)

end
end Go.Proofs.YtaedbnbeelkkcaaDoor
