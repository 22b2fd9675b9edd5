/-
  WHAT READINGS GIVE of a formula, of a proof, of a clause; the two sentinels.
-/
import Derived.Test.YtaedbnbeelkkcaaDoorLn
import Derived.Test.YtaedbnbeelkkcaaDoorTa
import Derived.Test.YtaedbnbeelkkcaaDoorCx
import Derived.ChangeMaps5
import Derived.Deep.Matrix
import Derived.Lib.SmallJoins
namespace Go.Proofs.YtaedbnbeelkkcaaDoor
open Go.ChangeShapes Go.WideShapes Go.ChangeAt Go.RowKit
section
theorem intRow_fits {H : Type} {P : Program} {t q : TypeId} (ht : P.underlying t = some (.slice q)) (hb : P.bytesOf q = 8) (k : IntKind) (A : Option Addr) (L : Nat) (zs : List Int) (hA : A = none → zs.length = 0)
    (hw : ∀ z ∈ DataW.weights P t (Go.Deep.intRow (H := H) k A L zs), z ≤ reachBytes) : (zs.take L).length ≤ 17592186043904 := by
  cases A with
  | none =>
    have := hA rfl
    rw [List.length_take]; omega
  | some a =>
    have h := hw (((lits (H := H) k (zs.take L)).length + (lits (H := H) k (zs.drop L)).length) * P.bytesOf q) (by
      simp only [Go.Deep.intRow, DataW.weights, ht]
      exact List.mem_cons_self)
    rw [hb] at h
    unfold lits reachBytes at h
    simp only [List.length_map] at h
    omega
theorem rows_fit {H : Type} {P : Program} {t q : TypeId} (ht : P.underlying t = some (.slice q)) (hb : P.bytesOf q = 8) (k : IntKind) (A : Nat → Option Addr) (L : Nat → Nat) (Z : Nat → List Int) : ∀ (l : List Nat), (∀ r ∈ l, A r = none → (Z r).length = 0) →
    (∀ z ∈ DataW.weightsAll P t (l.map fun r => Go.Deep.intRow (H := H) k (A r) (L r) (Z r)), z ≤ reachBytes) → ∀ x ∈ l.map (fun r => (Z r).take (L r)), x.length ≤ 17592186043904
  | [], _, _ => fun x hx => by cases hx
  | y :: r, h, hw => fun x hx => by
    simp only [List.map_cons, DataW.weightsAll] at hw
    rw [List.map_cons] at hx
    rcases List.mem_cons.1 hx with e | hx
    · rw [e]
      exact intRow_fits ht hb k (A y) (L y) (Z y) (h y (by simp)) fun z hz => hw z (List.mem_append_left _ hz)
    · exact rows_fit ht hb k A L Z r (fun u hu => h u (List.mem_cons_of_mem _ hu)) (fun z hz => hw z (List.mem_append_right _ hz)) x hx
theorem weights_first {H : Type} {P : Program} {t : TypeId} {ts : List TypeId} {d : DataW H} {ds : List (DataW H)} (h : (DataW.weightsEach P (t :: ts) (d :: ds)).all (· ≤ reachBytes) = true) : ∀ z ∈ DataW.weights P t d, z ≤ reachBytes := fun z hz => by
  have := List.all_eq_true.1 h z (by simp only [DataW.weightsEach]; exact List.mem_append_left _ hz)
  simpa using this
end
set_option maxRecDepth 100000 in
/-- what a reading of rows gives -/
theorem open_cls {H : Type} {enc : TypeId × Value → H} {W : World} {v : Value} {y : DataW H × List MemPlace} {fuel : Nat} {cs0 : List Value} (hcs : cs0 = [v])
    (h : DataW.trod enc Tryd.prog W 0 (fun _ => true) true fuel 22 cs0 = some y) :
    ∃ (A : Option Addr) (n c : Nat) (cs : List (List Int)), v = .slice A n c ∧ cs.length = n ∧ ClsR W W.heap.size A cs ∧ ((∀ z ∈ DataW.weights Tryd.prog 22 y.1, z ≤ reachBytes) → Fits cs) := by
  rcases Go.Deep.open_int_rows Tryd.underlying22 Tryd.underlying26 Tryd.underlying3 (by kernel_rfl) (by kernel_rfl) h with ⟨e1, _⟩ | ⟨a, len, cap, A, L, C, Z, e1, _, hlc, _, hy, hr⟩
  · rw [hcs] at e1
    obtain rfl : v = .slice none 0 0 := by simpa using e1
    exact ⟨none, 0, 0, [], rfl, rfl, fun h => absurd h (by simp), fun _ => ⟨by simp, by simp⟩⟩
  · rw [hcs] at e1
    obtain rfl : v = .slice (some a) len cap := by simpa using e1
    refine ⟨some a, len, cap, (List.range len).map fun r => (Z r).take (L r), rfl, by simp, fun hn => ?_, ?_⟩
    · have hn : 0 < len := by simpa using hn
      refine ⟨a, rfl, ?_, fun i l hl => ?_⟩
      · have := World.block_lt_of_cell? W _ (hr 0 (by omega)).1
        simpa [block_of_add] using this
      · obtain ⟨hi, rfl⟩ : i < len ∧ (Z i).take (L i) = l := by
          rw [List.getElem?_map] at hl
          cases hri : (List.range len)[i]? with
          | none => rw [hri] at hl; cases hl
          | some j =>
            rw [hri] at hl
            obtain ⟨hi, e⟩ := List.getElem?_eq_some_iff.1 hri
            rw [List.getElem_range] at e
            subst e
            exact ⟨by simpa using hi, by simpa using hl⟩
        obtain ⟨k1, k2, k3, k4, _, k6, k7⟩ := hr i (by omega)
        have hlen : ((Z i).take (L i)).length = L i := by rw [List.length_take]; omega
        refine ⟨A i, C i, by rw [hlen]; exact k1, ?_, fun hp => ?_⟩
        · unfold litVals; simp
        · rw [hlen] at hp
          cases hA : A i with
          | none => have := k6 hA; omega
          | some a' =>
            have k8 := (k7 a' hA).2
            refine ⟨a', rfl, ?_, fun j u hu => ?_⟩
            · have := World.block_lt_of_cell? W _ (k8 0 (by omega))
              simpa [block_of_add] using this
            · unfold litVals at hu
              rw [List.getElem?_map] at hu
              cases hz : ((Z i).take (L i))[j]? with
              | none => rw [hz] at hu; cases hu
              | some z =>
                rw [hz] at hu
                obtain rfl : Value.int .i64 z = u := by simpa using hu
                obtain ⟨hj, _⟩ := List.getElem?_eq_some_iff.1 hz
                rw [hlen] at hj
                have hz2 : (Z i)[j]? = some z := by
                  rw [List.getElem?_take] at hz
                  simpa [hj] using hz
                have := k8 j (by omega)
                rw [this, List.getD_eq_getElem?_getD, hz2]; rfl
    · intro hw
      rw [hy] at hw
      simp only [DataW.weights, Tryd.underlying22] at hw
      refine ⟨?_, rows_fit Tryd.underlying26 (by kernel_rfl) .i64 A L Z (List.range len) (fun r hr' hA => by
        have hr'' := List.mem_range.1 hr'
        obtain ⟨_, _, _, k4, _, k6, _⟩ := hr r (by omega)
        rw [k4, k6 hA]) (fun z hz => hw z (List.mem_cons_of_mem _ (List.mem_append_left _ hz)))⟩
      have h1 := hw _ List.mem_cons_self
      rw [show Tryd.prog.bytesOf 26 = 24 from by kernel_rfl] at h1
      simp only [List.length_map, List.length_range] at h1 ⊢
      unfold reachBytes at h1
      omega
set_option maxRecDepth 100000 in
/-- WHAT A READING OF A FORMULA GIVES -/
theorem open_form {H : Type} {enc : TypeId × Value → H} {W : World} {base : Nat} {v : Value} {d : DataW H} {p : List MemPlace}
    (hv : Value.okWide Tryd.prog W .any base 24 v) (h : DataW.Trod enc Tryd.prog W 0 (fun _ => true) true 24 v d p) :
    ∃ (x : Int) (A : Option Addr) (n c : Nat) (cs : List (List Int)), v = .agg #[.int .i64 x, .slice A n c] ∧ cs.length = n ∧ ClsR W W.heap.size A cs ∧ ((∀ z ∈ DataW.weights Tryd.prog 24 d, z ≤ reachBytes) → Fits cs) := by
  obtain ⟨v0, v1, y0, y1, m, rfl, rfl, _, h0, h1⟩ := Joins.open_agg2 Tryd.underlying24 (by kernel_rfl) (by kernel_rfl) hv h
  obtain ⟨x, e0, _, _⟩ := DataW.trod_int Tryd.underlying3 h0
  obtain rfl : v0 = .int .i64 x := by simpa using e0
  obtain ⟨A, n, c, cs, rfl, hn, hr, hb⟩ := open_cls rfl h1
  refine ⟨x, A, n, c, cs, rfl, hn, hr, fun hw => hb fun z hz => hw z ?_⟩
  simp only [DataW.weights, Tryd.underlying24]
  show z ∈ DataW.weightsEach Tryd.prog [3, 22] [_, _]
  simp only [DataW.weightsEach]
  exact List.mem_append_right _ (List.mem_append_left _ hz)
set_option maxRecDepth 100000 in
/-- what a reading of a proof gives -/
theorem open_rows {H : Type} {enc : TypeId × Value → H} {W : World} {base : Nat} {v : Value} {d : DataW H} {p : List MemPlace}
    (hv : Value.okWide Tryd.prog W .any base 22 v) (h : DataW.Trod enc Tryd.prog W 0 (fun _ => true) true 22 v d p) :
    ∃ (A : Option Addr) (n c : Nat) (cs : List (List Int)), v = .slice A n c ∧ cs.length = n ∧ ClsR W W.heap.size A cs := by
  obtain ⟨a0, l0, c0, rfl⟩ := okWide_slice Tryd.underlying22 hv
  obtain ⟨fuel, hf⟩ := h
  obtain ⟨A, n, c, cs, h1, h2, h3, _⟩ := open_cls (v := .slice a0 l0 c0) (by simp [Value.cells]) hf
  exact ⟨A, n, c, cs, h1, h2, h3⟩
end Go.Proofs.YtaedbnbeelkkcaaDoor
namespace Go.Proofs.YtaedbnbeelkkcaaDoor
open Go.ChangeShapes Go.WideShapes Go.ChangeAt Go.RowKit
section
variable {H : Type} {enc : TypeId × Value → H} {P : Program}
theorem open_intRow {W : World} {base : Nat} {t e : TypeId} {r : Reach} {v : Value} {d : DataW H} {p : List MemPlace} (ht : P.underlying t = some (.slice e)) (he : P.underlying e = some (.int .i64)) (hc : P.cellsOf e = 1)
    (hval : Value.okWide P W r base t v) (h : DataW.Trod enc P W 0 (fun _ => true) true t v d p) :
    ∃ (A : Option Addr) (ns : List Int) (c : Nat), v = .slice A ns.length c ∧ Reads W W.heap.size 1 A ns.length (litVals ns) ∧ ∀ a ∈ ns, (Lit.int .i64 a).wf = true := by
  obtain ⟨a0, l0, c0, rfl⟩ := okWide_slice ht hval
  obtain ⟨fuel, hf⟩ := h
  rcases open_ints ht he hc hf with ⟨hcs, _⟩ | ⟨a, len, cap, zs, hcs, _, hlen, hmax, hz, _, hcell, hw⟩
  · simp only [Value.cells, List.cons.injEq, Value.slice.injEq, and_true] at hcs
    obtain ⟨rfl, rfl, rfl⟩ := hcs
    exact ⟨none, [], 0, rfl, .none_, by simp⟩
  · simp only [Value.cells, List.cons.injEq, Value.slice.injEq, and_true] at hcs
    obtain ⟨rfl, rfl, rfl⟩ := hcs
    have hl : (zs.take l0).length = l0 := by rw [List.length_take, hz]; simp only [if_true]; omega
    refine ⟨some a, zs.take l0, c0, by rw [hl], ?_, fun x hx => hw x (List.mem_of_mem_take hx)⟩
    rw [hl]
    refine ⟨by unfold litVals; rw [List.length_map, hl, Nat.mul_one], fun hpos => ⟨a, rfl, ?_, fun j u hu => ?_⟩⟩
    · have := World.block_lt_of_cell? W _ (hcell 0 (by rw [hz]; simp only [if_true]; omega))
      rwa [block_of_add] at this
    · unfold litVals at hu
      rw [List.getElem?_map, List.getElem?_take] at hu
      split at hu
      · rename_i hjl
        have hjz : j < zs.length := by rw [hz]; simp only [if_true]; omega
        rw [List.getElem?_eq_getElem hjz] at hu
        simp only [Option.map_some, Option.some.injEq] at hu
        rw [← hu, hcell j hjz, List.getD_eq_getElem?_getD, List.getElem?_eq_getElem hjz]
        rfl
      · cases hu
end
def senList : List (String × DataW Unit) := [("lustrum/api.ErrBound", Rows.laid_lustrum_api_ErrBound), ("lustrum/api.ErrShape", Rows.laid_lustrum_api_ErrShape)]
/-- what the list gives a walk -/
theorem sen_of_laid {W : World} {l : List (String × DataW Unit)} (h : laidMetH Tryd.prog l W) (hsub : ∀ x ∈ senList, x ∈ l) : ∃ ea, Sen W ea := by
  have key : ∀ (i : Nat) (x : String × DataW Unit), senList[i]? = some x → x ∈ l := fun i x h => hsub x (List.mem_of_getElem? h)
  obtain ⟨a2, _, e2, _⟩ := sent_of_laid h (key 0 ("lustrum/api.ErrBound", sentD [108, 117, 115, 116, 114, 117, 109, 58, 32, 98, 111, 117, 110, 100]) rfl) (g := 0) (by kernel_rfl) (by kernel_rfl)
  obtain ⟨a3, _, e3, _⟩ := sent_of_laid h (key 1 ("lustrum/api.ErrShape", sentD [108, 117, 115, 116, 114, 117, 109, 58, 32, 115, 104, 97, 112, 101]) rfl) (g := 1) (by kernel_rfl) (by kernel_rfl)
  exact ⟨fun k => if k = 2 then a2 else a3, e2, e3⟩
end Go.Proofs.YtaedbnbeelkkcaaDoor
