/-
  WHAT READINGS GIVE of a formula; the handle and the sentinels.
  THE LAW SatCounts, called with whatever can be read; ITS CARD: for every input the law answers true, and what it was handed reads as before; the listed package-level variables are tied to the program's text by the given tie.
-/
import Derived.Test.YtaedbnbeelkkcaaDoorLn
import Derived.Test.YtaedbnbeelkkcaaDoorTa
import Derived.Test.YtaedbnbeelkkcaaDoorTc
import Derived.ChangeMaps5
import Derived.Deep.Matrix
import Derived.Lib.SmallJoins
import Derived.Test.YtaedbnbeelkkcaaDoorN8
import Derived.Test.YtaedbnbeelkkcaaDoorSk
import Derived.Lay
import Derived.MakeChecks
namespace Go.Proofs.YtaedbnbeelkkcaaDoor
open Go.ChangeShapes Go.WideShapes Go.ChangeAt Go.RowKit
section
theorem intRow_fits {H : Type} {P : Program} {t q : TypeId} (ht : P.underlying t = some (.slice q)) (hb : P.bytesOf q = 8) (k : IntKind) (A : Option Addr) (L : Nat) (zs : List Int) (hA : A = none → zs.length = 0)
    (hw : ∀ z ∈ DataW.weights P t (Go.Deep.intRow (H := H) k A L zs), z ≤ reachBytes) : (zs.take L).length ≤ 17592186043904 := by
  cases A with
  | none =>
    have := hA rfl
    rw [List.length_take]; omega
  | some a =>
    have h := hw (((lits (H := H) k (zs.take L)).length + (lits (H := H) k (zs.drop L)).length) * P.bytesOf q) (by
      simp only [Go.Deep.intRow, DataW.weights, ht]
      exact List.mem_cons_self)
    rw [hb] at h
    unfold lits reachBytes at h
    simp only [List.length_map] at h
    omega
theorem rows_fit {H : Type} {P : Program} {t q : TypeId} (ht : P.underlying t = some (.slice q)) (hb : P.bytesOf q = 8) (k : IntKind) (A : Nat → Option Addr) (L : Nat → Nat) (Z : Nat → List Int) : ∀ (l : List Nat), (∀ r ∈ l, A r = none → (Z r).length = 0) →
    (∀ z ∈ DataW.weightsAll P t (l.map fun r => Go.Deep.intRow (H := H) k (A r) (L r) (Z r)), z ≤ reachBytes) → ∀ x ∈ l.map (fun r => (Z r).take (L r)), x.length ≤ 17592186043904
  | [], _, _ => fun x hx => by cases hx
  | y :: r, h, hw => fun x hx => by
    simp only [List.map_cons, DataW.weightsAll] at hw
    rw [List.map_cons] at hx
    rcases List.mem_cons.1 hx with e | hx
    · rw [e]
      exact intRow_fits ht hb k (A y) (L y) (Z y) (h y (by simp)) fun z hz => hw z (List.mem_append_left _ hz)
    · exact rows_fit ht hb k A L Z r (fun u hu => h u (List.mem_cons_of_mem _ hu)) (fun z hz => hw z (List.mem_append_right _ hz)) x hx
theorem weights_first {H : Type} {P : Program} {t : TypeId} {ts : List TypeId} {d : DataW H} {ds : List (DataW H)} (h : (DataW.weightsEach P (t :: ts) (d :: ds)).all (· ≤ reachBytes) = true) : ∀ z ∈ DataW.weights P t d, z ≤ reachBytes := fun z hz => by
  have := List.all_eq_true.1 h z (by simp only [DataW.weightsEach]; exact List.mem_append_left _ hz)
  simpa using this
end
set_option maxRecDepth 100000 in
/-- what a reading of rows gives -/
theorem open_cls {H : Type} {enc : TypeId × Value → H} {W : World} {v : Value} {y : DataW H × List MemPlace} {fuel : Nat} {cs0 : List Value} (hcs : cs0 = [v])
    (h : DataW.trod enc Tryd.prog W 0 (fun _ => true) true fuel 22 cs0 = some y) :
    ∃ (A : Option Addr) (n c : Nat) (cs : List (List Int)), v = .slice A n c ∧ cs.length = n ∧ ClsR W W.heap.size A cs ∧ ((∀ z ∈ DataW.weights Tryd.prog 22 y.1, z ≤ reachBytes) → Fits cs) := by
  rcases Go.Deep.open_int_rows Tryd.underlying22 Tryd.underlying26 Tryd.underlying3 (by kernel_rfl) (by kernel_rfl) h with ⟨e1, _⟩ | ⟨a, len, cap, A, L, C, Z, e1, _, hlc, _, hy, hr⟩
  · rw [hcs] at e1
    obtain rfl : v = .slice none 0 0 := by simpa using e1
    exact ⟨none, 0, 0, [], rfl, rfl, fun h => absurd h (by simp), fun _ => ⟨by simp, by simp⟩⟩
  · rw [hcs] at e1
    obtain rfl : v = .slice (some a) len cap := by simpa using e1
    refine ⟨some a, len, cap, (List.range len).map fun r => (Z r).take (L r), rfl, by simp, fun hn => ?_, ?_⟩
    · have hn : 0 < len := by simpa using hn
      refine ⟨a, rfl, ?_, fun i l hl => ?_⟩
      · have := World.block_lt_of_cell? W _ (hr 0 (by omega)).1
        simpa [block_of_add] using this
      · obtain ⟨hi, rfl⟩ : i < len ∧ (Z i).take (L i) = l := by
          rw [List.getElem?_map] at hl
          cases hri : (List.range len)[i]? with
          | none => rw [hri] at hl; cases hl
          | some j =>
            rw [hri] at hl
            obtain ⟨hi, e⟩ := List.getElem?_eq_some_iff.1 hri
            rw [List.getElem_range] at e
            subst e
            exact ⟨by simpa using hi, by simpa using hl⟩
        obtain ⟨k1, k2, k3, k4, _, k6, k7⟩ := hr i (by omega)
        have hlen : ((Z i).take (L i)).length = L i := by rw [List.length_take]; omega
        refine ⟨A i, C i, by rw [hlen]; exact k1, ?_, fun hp => ?_⟩
        · unfold litVals; simp
        · rw [hlen] at hp
          cases hA : A i with
          | none => have := k6 hA; omega
          | some a' =>
            have k8 := (k7 a' hA).2
            refine ⟨a', rfl, ?_, fun j u hu => ?_⟩
            · have := World.block_lt_of_cell? W _ (k8 0 (by omega))
              simpa [block_of_add] using this
            · unfold litVals at hu
              rw [List.getElem?_map] at hu
              cases hz : ((Z i).take (L i))[j]? with
              | none => rw [hz] at hu; cases hu
              | some z =>
                rw [hz] at hu
                obtain rfl : Value.int .i64 z = u := by simpa using hu
                obtain ⟨hj, _⟩ := List.getElem?_eq_some_iff.1 hz
                rw [hlen] at hj
                have hz2 : (Z i)[j]? = some z := by
                  rw [List.getElem?_take] at hz
                  simpa [hj] using hz
                have := k8 j (by omega)
                rw [this, List.getD_eq_getElem?_getD, hz2]; rfl
    · intro hw
      rw [hy] at hw
      simp only [DataW.weights, Tryd.underlying22] at hw
      refine ⟨?_, rows_fit Tryd.underlying26 (by kernel_rfl) .i64 A L Z (List.range len) (fun r hr' hA => by
        have hr'' := List.mem_range.1 hr'
        obtain ⟨_, _, _, k4, _, k6, _⟩ := hr r (by omega)
        rw [k4, k6 hA]) (fun z hz => hw z (List.mem_cons_of_mem _ (List.mem_append_left _ hz)))⟩
      have h1 := hw _ List.mem_cons_self
      rw [show Tryd.prog.bytesOf 26 = 24 from by kernel_rfl] at h1
      simp only [List.length_map, List.length_range] at h1 ⊢
      unfold reachBytes at h1
      omega
set_option maxRecDepth 100000 in
/-- WHAT A READING OF A FORMULA GIVES -/
theorem open_form {H : Type} {enc : TypeId × Value → H} {W : World} {base : Nat} {v : Value} {d : DataW H} {p : List MemPlace}
    (hv : Value.okWide Tryd.prog W .any base 24 v) (h : DataW.Trod enc Tryd.prog W 0 (fun _ => true) true 24 v d p) :
    ∃ (x : Int) (A : Option Addr) (n c : Nat) (cs : List (List Int)), v = .agg #[.int .i64 x, .slice A n c] ∧ cs.length = n ∧ ClsR W W.heap.size A cs ∧ ((∀ z ∈ DataW.weights Tryd.prog 24 d, z ≤ reachBytes) → Fits cs) := by
  obtain ⟨v0, v1, y0, y1, m, rfl, rfl, _, h0, h1⟩ := Joins.open_agg2 Tryd.underlying24 (by kernel_rfl) (by kernel_rfl) hv h
  obtain ⟨x, e0, _, _⟩ := DataW.trod_int Tryd.underlying3 h0
  obtain rfl : v0 = .int .i64 x := by simpa using e0
  obtain ⟨A, n, c, cs, rfl, hn, hr, hb⟩ := open_cls rfl h1
  refine ⟨x, A, n, c, cs, rfl, hn, hr, fun hw => hb fun z hz => hw z ?_⟩
  simp only [DataW.weights, Tryd.underlying24]
  show z ∈ DataW.weightsEach Tryd.prog [3, 22] [_, _]
  simp only [DataW.weightsEach]
  exact List.mem_append_right _ (List.mem_append_left _ hz)
set_option maxRecDepth 100000 in
/-- what a reading of a proof gives -/
theorem open_rows {H : Type} {enc : TypeId × Value → H} {W : World} {base : Nat} {v : Value} {d : DataW H} {p : List MemPlace}
    (hv : Value.okWide Tryd.prog W .any base 22 v) (h : DataW.Trod enc Tryd.prog W 0 (fun _ => true) true 22 v d p) :
    ∃ (A : Option Addr) (n c : Nat) (cs : List (List Int)), v = .slice A n c ∧ cs.length = n ∧ ClsR W W.heap.size A cs := by
  obtain ⟨a0, l0, c0, rfl⟩ := okWide_slice Tryd.underlying22 hv
  obtain ⟨fuel, hf⟩ := h
  obtain ⟨A, n, c, cs, h1, h2, h3, _⟩ := open_cls (v := .slice a0 l0 c0) (by simp [Value.cells]) hf
  exact ⟨A, n, c, cs, h1, h2, h3⟩
end Go.Proofs.YtaedbnbeelkkcaaDoor
namespace Go.Proofs.YtaedbnbeelkkcaaDoor
open Go.ChangeShapes Go.WideShapes Go.ChangeAt Go.RowKit
/-- the handle's cell -/
theorem handle_any {P : Program} {W : World} {l : List (String × DataW Unit)} (h : laidMetH P l W) {u ty size : Nat} {d : DataW Unit} (hd : d = .iface "internal/reflectlite.rtype" (.agg [.ptr (.lit (.string [101, 114, 114, 111, 114]))])) (hm : ("errors.errorType", d) ∈ l)
    (hs : P.types.size = size) (hrt : (P.cutTypes.find? (·.1 == "internal/reflectlite.rtype")).map (·.2) = some u) (hone : ((List.range size).filter fun t => P.rowNamed t [101, 114, 114, 111, 114]) = [ty]) {g : Nat} (hg : P.globalNamed "errors.errorType" = some g) :
    W.cell? ⟨g, 0, none⟩ = some (.iface u (.agg #[typeHandle P ty])) := by
  have hf : d.funcsIn? = none := by rw [hd]; rfl
  have hn : d.handleName? = some [101, 114, 114, 111, 114] := by rw [hd]; rfl
  have h2 := (laidMetH_iff.1 h).2 ("errors.errorType", d) (List.mem_filter.2 ⟨hm, by rw [hn]; rfl⟩)
  simp only [hf] at h2
  obtain ⟨name, u', ty', e1, e2, e3, e4, e5⟩ := h2
  obtain rfl := Option.some.inj (hn.symm.trans e1)
  obtain rfl := Option.some.inj (hrt.symm.trans e2)
  have hm : ty' ∈ (List.range size).filter fun t => P.rowNamed t [101, 114, 114, 111, 114] := List.mem_filter.2 ⟨List.mem_range.2 (by rw [← hs]; exact e3), e4⟩
  rw [hone] at hm
  obtain rfl := List.mem_singleton.1 hm
  simpa using World.var?_cell hg e5 0
/-- the sentinels' texts -/
def errText : Nat → List UInt8
  | 1 => [108, 117, 115, 116, 114, 117, 109, 58, 32, 116, 101, 120, 116]
  | 2 => [108, 117, 115, 116, 114, 117, 109, 58, 32, 98, 111, 117, 110, 100]
  | 3 => [108, 117, 115, 116, 114, 117, 109, 58, 32, 115, 104, 97, 112, 101]
  | 4 => [108, 117, 115, 116, 114, 117, 109, 58, 32, 110, 97, 109, 101]
  | 5 => [108, 117, 115, 116, 114, 117, 109, 58, 32, 116, 121, 112, 101]
  | 6 => [108, 117, 115, 116, 114, 117, 109, 58, 32, 99, 121, 99, 108, 101]
  | 7 => [108, 117, 115, 116, 114, 117, 109, 58, 32, 102, 105, 114, 115, 116]
  | 8 => [108, 117, 115, 116, 114, 117, 109, 58, 32, 112, 114, 111, 111, 102]
  | _ => [108, 117, 115, 116, 114, 117, 109, 58, 32, 110, 111, 110, 101]
theorem errText_ne : ∀ j k : Fin 10, 1 ≤ j.val → 1 ≤ k.val → j ≠ k → errText j.val ≠ errText k.val := by decide +kernel
def errList : List (String × DataW Unit) := [("errors.errorType", Rows.laid_errors_errorType), ("lustrum/api.ErrText", Rows.laid_lustrum_api_ErrText), ("lustrum/api.ErrBound", Rows.laid_lustrum_api_ErrBound), ("lustrum/api.ErrShape", Rows.laid_lustrum_api_ErrShape), ("lustrum/api.ErrName", Rows.laid_lustrum_api_ErrName), ("lustrum/api.ErrType", Rows.laid_lustrum_api_ErrType), ("lustrum/api.ErrCycle", Rows.laid_lustrum_api_ErrCycle), ("lustrum/api.ErrFirst", Rows.laid_lustrum_api_ErrFirst), ("lustrum/api.ErrProof", Rows.laid_lustrum_api_ErrProof), ("lustrum/api.ErrNone", Rows.laid_lustrum_api_ErrNone)]
theorem et_g : Tryd.prog.globalNamed "errors.errorType" = some 9 := by kernel_rfl
theorem et_rt : (Tryd.prog.cutTypes.find? (·.1 == "internal/reflectlite.rtype")).map (·.2) = some 108 := by kernel_rfl
theorem et_one : ((List.range Tryd.prog.types.size).filter fun t => Tryd.prog.rowNamed t [101, 114, 114, 111, 114]) = [32] := by kernel_rfl
theorem et_handle : typeHandle Tryd.prog 32 = .pointer (some ⟨10, 32, none⟩) := by kernel_rfl
theorem api_g : ∀ k, 1 ≤ k → k ≤ 9 → Tryd.prog.globalNamed ("lustrum/api." ++ (["", "ErrText", "ErrBound", "ErrShape", "ErrName", "ErrType", "ErrCycle", "ErrFirst", "ErrProof", "ErrNone"].getD k "")) = some (gvar k) ∧ (Tryd.prog.globals[gvar k]?).map (·.type) = some 32 := by
  intro k h1 h2
  have : k = 1 ∨ k = 2 ∨ k = 3 ∨ k = 4 ∨ k = 5 ∨ k = 6 ∨ k = 7 ∨ k = 8 ∨ k = 9 := by omega
  rcases this with rfl | rfl | rfl | rfl | rfl | rfl | rfl | rfl | rfl <;> exact ⟨by kernel_rfl, by kernel_rfl⟩
theorem api_in : ∀ k, 1 ≤ k → k ≤ 9 → ("lustrum/api." ++ (["", "ErrText", "ErrBound", "ErrShape", "ErrName", "ErrType", "ErrCycle", "ErrFirst", "ErrProof", "ErrNone"].getD k ""), sentD (errText k)) ∈ errList := by
  intro k h1 h2
  have : k = 1 ∨ k = 2 ∨ k = 3 ∨ k = 4 ∨ k = 5 ∨ k = 6 ∨ k = 7 ∨ k = 8 ∨ k = 9 := by omega
  have key : ∀ (i : Nat) (x : String × DataW Unit), errList[i]? = some x → x ∈ errList := fun i x h => List.mem_of_getElem? h
  rcases this with rfl | rfl | rfl | rfl | rfl | rfl | rfl | rfl | rfl
  · exact key 1 _ rfl
  · exact key 2 _ rfl
  · exact key 3 _ rfl
  · exact key 4 _ rfl
  · exact key 5 _ rfl
  · exact key 6 _ rfl
  · exact key 7 _ rfl
  · exact key 8 _ rfl
  · exact key 9 _ rfl
/-- WHAT THE LIST GIVES A WALK. -/
theorem errs_of_laid {W : World} {l : List (String × DataW Unit)} (h : laidMetH Tryd.prog l W) (hsub : ∀ x ∈ errList, x ∈ l) : ∃ ea, Errs W ea W.heap.size := by
  have all : ∀ k : Nat, ∃ a : Addr, 1 ≤ k → k ≤ 9 → W.cell? ⟨gvar k, 0, none⟩ = some (.iface 143 (.pointer (some a))) ∧ (∃ s : ByteArray, W.cell? a = some (.string s) ∧ s.data.toList = errText k) ∧ ∃ c t, W.heap[a.block]? = some (.cells c t (0, 0)) := by
    intro k
    by_cases hk : 1 ≤ k ∧ k ≤ 9
    · obtain ⟨h1, h2⟩ := api_g k hk.1 hk.2
      obtain ⟨a, s, e1, e2, e3, e4⟩ := sent_of_laid h (hsub _ (api_in k hk.1 hk.2)) h1 h2
      exact ⟨a, fun _ _ => ⟨e1, ⟨s, e2, e3⟩, e4⟩⟩
    · exact ⟨⟨0, 0, none⟩, fun h1 h2 => absurd ⟨h1, h2⟩ hk⟩
  obtain ⟨ea, hea⟩ := Classical.axiomOfChoice all
  have hvar : ∀ k, 1 ≤ k → k ≤ 9 → W.cell? ⟨gvar k, 0, none⟩ = some (errV ea k) := fun k h1 h2 => by
    rw [(hea k h1 h2).1]
    match k, h1 with
    | k + 1, _ => rfl
  have het := handle_any h rfl (hsub _ (List.mem_of_getElem? (i := 0) rfl)) rfl et_rt et_one et_g
  rw [et_handle] at het
  refine ⟨ea, hvar, fun k => ?_, fun k h1 h2 => ?_, fun j k j1 j2 k1 k2 hne he => ?_, het, World.block_lt_of_cell? _ _ het⟩
  · by_cases hk : 1 ≤ k ∧ k ≤ 9
    · exact World.block_lt_of_cell? _ _ (hvar k hk.1 hk.2)
    · have e : gvar k = gvar 9 := by
        match k, hk with
        | 0, _ => rfl
        | k + 9, hk =>
          match k, hk with
          | 0, _ => rfl
          | k + 1, _ => rfl
      rw [e]
      exact World.block_lt_of_cell? _ _ (hvar 9 (by decide) (by decide))
  · obtain ⟨_, ⟨s, hc, _⟩, h3⟩ := hea k h1 h2
    exact ⟨World.block_lt_of_cell? _ _ hc, h3⟩
  · obtain ⟨_, ⟨s, hc, hs⟩, _⟩ := hea j j1 j2
    obtain ⟨_, ⟨s', hc', hs'⟩, _⟩ := hea k k1 k2
    rw [he, hc'] at hc
    obtain rfl : s' = s := by simpa using hc
    exact errText_ne ⟨j, by omega⟩ ⟨k, by omega⟩ j1 k1 (by simpa using hne) (hs.symm.trans hs')
end Go.Proofs.YtaedbnbeelkkcaaDoor
namespace Go.Proofs.YtaedbnbeelkkcaaDoor.satCounts
open Go.ChangeShapes Go.WideShapes Go.ChangeAt Go.RowKit
set_option maxRecDepth 100000 in
theorem calls (H : Type) (enc : TypeId × Value → H) (W : World) (base : Nat) (args : Array Value) (ds gs : List (DataW H)) (before : List MemPlace)
    (hval : ∀ (j : Nat) t v, Tryd.f4.params[j]? = some t → args[j]? = some v → Value.okWide Tryd.prog W .any base t v)
    (hW : DataW.Whole enc Tryd.prog Tryd.f4.params.toList Rows.satCountsSpec.vars false W args.toList ds gs before) (hz : (DataW.weightsEach Tryd.prog (Tryd.f4.params.toList ++ (OpenSpec.ofChange Rows.satCountsSpec).bare.plain.varTypes Tryd.prog) (ds ++ gs)).all (· ≤ reachBytes) = true) (hL : laidMetH Tryd.prog Rows.satCountsRow.laid W) :
    Calls Tryd.prog 4 args W fun e W' => e = .returned (.bool true) ∧ Below W.heap.size W W' := by
  obtain ⟨p, q, hA0, hV, rfl, hfz, hnd⟩ := hW
  have hA : DataW.TrodAll enc Tryd.prog W 0 (fun _ => true) true Tryd.f4.params.toList args.toList ds p := hA0
  rw [Tryd.params4] at hA hval hz
  obtain ⟨v0, vs0, d0, ds0, p0, q0, hargs, rfl, rfl, h0, r0⟩ := trodAll_cons hA
  obtain ⟨v1, vs1, d1, ds1, p1, q1, rfl, rfl, rfl, h1, r1⟩ := trodAll_cons r0
  obtain ⟨rfl, rfl, rfl⟩ := trodAll_nil r1
  obtain rfl : args = #[v0, v1] := by cases args; simp_all
  obtain ⟨x, A, n, c, cs, rfl, hn, hr, hb⟩ := open_form (hval 0 24 v0 rfl rfl) h0
  obtain ⟨z, rfl, rfl, rfl, _⟩ := open_int Tryd.underlying3 (hval 1 3 v1 rfl rfl) h1
  have hbd : Fits cs := hb (weights_first hz)
  obtain ⟨ea, hes⟩ := errs_of_laid hL fun _ hx => hx
  exact slv.counts_any hn hes (Nat.le_refl _) hbd hr (Nat.le_refl _)
set_option maxRecDepth 100000
theorem k1 : Rows.satCountsRow.wf (OpenSpec.ofChange Rows.satCountsSpec) = true := by kernel_rfl
theorem k4 : (Tryd.f4.params.all (Tryd.prog.readableRec ·)) = true := by kernel_rfl
theorem k5 : namedTie Tryd.prog Rows.satCountsRow.named Rows.satCountsSpec.vars = true := by kernel_rfl
theorem k10 : (Rows.satCountsRow.inPlace == Tryd.prog.inPlace 4) = true := by kernel_rfl
theorem k11 : (Rows.satCountsRow.unfollowed == Tryd.prog.unfollowed 4) = true := by kernel_rfl
theorem k12 : (Rows.satCountsRow.recurses == Tryd.prog.recurses 4) = true := by kernel_rfl
theorem k13 : (Rows.satCountsRow.named == Tryd.prog.varsNamed 4) = true := by kernel_rfl
theorem types : Tryd.f4.params.toList ++ Rows.satCountsSpec.plain.varTypes Tryd.prog = Tryd.f4.params.toList := by kernel_rfl
theorem k14 : (Rows.satCountsRow.maps == Tryd.f4.params.toList.any (Tryd.prog.mapsRec ·)) = true := by kernel_rfl
theorem k15 : (Rows.satCountsRow.ifaces == Tryd.f4.params.toList.any (Tryd.prog.ifacesRec ·)) = true := by kernel_rfl
theorem k16 : (Rows.satCountsRow.mapsOut == Tryd.prog.mapsAmong Tryd.f4.resultTypes.toList) = true := by kernel_rfl
theorem k17 : (Rows.satCountsRow.loops == Tryd.f4.params.toList.any (Tryd.prog.loopsFrom ·)) = true := by kernel_rfl
theorem k17b : (Rows.satCountsRow.wideKeys == (Tryd.f4.params.toList ++ Tryd.f4.resultTypes.toList).any (Tryd.prog.wideKeysFrom ·)) = true := by kernel_rfl
theorem k18 : Rows.satCountsSpec.vars.all (Tryd.prog.varReadable ·) = true := by kernel_rfl
theorem k19 : (Tryd.f4.resultTypes.all fun t => Tryd.prog.readableRec t && decide (t < Tryd.prog.types.size)) = true := by kernel_rfl
theorem k20 : (Rows.satCountsRow.ifacesOut == Tryd.f4.resultTypes.toList.any (Tryd.prog.ifacesRec ·)) = true := by kernel_rfl
theorem k21 : (Rows.satCountsRow.loopsOut == Tryd.f4.resultTypes.toList.any (Tryd.prog.loopsFrom ·)) = true := by kernel_rfl
theorem k25 : (Rows.satCountsRow.kinds == (if Rows.satCountsRow.domain.isEmpty then [] else Tryd.f4.params.toList.map fun t => match Tryd.prog.underlying t with | some (.int k) => some k | _ => none)) = true := by kernel_rfl
theorem k26 : (Rows.satCountsRow.pinned == Rows.satCountsRow.pinnedBy) = true := by kernel_rfl
theorem k27 : (Rows.satCountsRow.veiled == (Tryd.f4.params.toList ++ Tryd.f4.resultTypes.toList).any (Tryd.prog.veiledRec ·)) = true := by kernel_rfl
theorem k28 : Rows.satCountsRow.veiledFits Tryd.prog Tryd.f4.params.toList (Tryd.f4.params.toList ++ Tryd.f4.resultTypes.toList) = true := by kernel_rfl
set_option maxRecDepth 100000 in
theorem closed : joinedFacts Tryd.prog 4 Tryd.f4 Rows.satCountsSpec Rows.satCountsRow = true :=
  joined_of types k1 laidOut sf.mapsRowed_ k4 k5 rfl sf.stops_ rfl sf.knobs_ k10 k11 k12 k13 k14 k15 k16 k17 k17b k18 k19 k20 k21 sf.plainKeys_ rfl sf.heard_ sf.enters_ sf.lifts_ sf.make_ k25 k26 k27 k28
theorem named_f : Tryd.prog.funcNamed "lustrum/lustrumlaw3.SatCounts" = some 4 := by kernel_rfl
theorem apart_ : Tryd.f4.isInstance Tryd.prog Rows.satCountsRow.origin Rows.satCountsRow.targs := of_decide_eq_true (by kernel_rfl)
theorem wrapper_ : Tryd.f4.isWrapper Tryd.prog Rows.satCountsRow.wrapper Rows.satCountsRow.mainSum := by unfold Func.isWrapper; first | (rw [if_pos (by decide +kernel)]; kernel_rfl) | (rw [if_neg (by decide +kernel)]; exact ⟨rfl, rfl⟩)

theorem looks (f : FuncId) (fn : Func) (hf : Tryd.pinned.checked.prog.funcNamed "lustrum/lustrumlaw3.SatCounts" = some f) (hfn : Tryd.pinned.checked.prog.funcs[f]? = some fn) :
    true = Tryd.pinned.checked.prog.looks [] ∧ ∀ (j : Nat) t, fn.params[j]? = some t → Tryd.pinned.checked.prog.wantsStandIn t = false := by
  obtain rfl : f = 4 := Option.some.inj (named_f.symm.trans hf) |>.symm
  obtain rfl : fn = Tryd.f4 := (Option.some.inj (Tryd.func4.symm.trans hfn)).symm
  refine ⟨sf.looks_, fun j t ht => ?_⟩
  have hm : t ∈ Tryd.f4.params.toList := Array.mem_toList_iff.2 (Array.mem_of_getElem? ht)
  have ha : (Tryd.f4.params.toList.all fun t => !Tryd.prog.wantsStandIn t) = true := by kernel_rfl
  have h1 := List.all_eq_true.1 ha t hm
  have h2 : Tryd.prog.wantsStandIn t = false := by simpa using h1
  exact h2
theorem pars : ∀ t ∈ Tryd.f4.params.toList, Tryd.prog.readableRec t = true ∧ t < Tryd.prog.types.size := fun t ht => by
  have ha : (Tryd.f4.params.toList.all fun t => Tryd.prog.readableRec t && decide (t < Tryd.prog.types.size)) = true := by kernel_rfl
  have := List.all_eq_true.1 ha t ht
  simpa using this
set_option maxRecDepth 100000 in
theorem contract (H : Type) (enc : TypeId × Value → H) (W : World) (base : Nat) (args : Array Value) (ds gs : List (DataW H)) (before : List MemPlace)
    (hval : ∀ (j : Nat) t v, Tryd.f4.params[j]? = some t → args[j]? = some v → Value.okWide Tryd.prog W .any base t v)
    (hW : DataW.Whole enc Tryd.prog Tryd.f4.params.toList Rows.satCountsSpec.vars false W args.toList ds gs before) (hz : (DataW.weightsEach Tryd.prog (Tryd.f4.params.toList ++ (OpenSpec.ofChange Rows.satCountsSpec).bare.plain.varTypes Tryd.prog) (ds ++ gs)).all (· ≤ reachBytes) = true) (hL : laidMetH Tryd.prog Rows.satCountsRow.laid W) :
    Calls Tryd.prog 4 args W fun e W' => ∃ v, e = .returned v ∧ Rows.satCountsSpec.post enc Tryd.prog Tryd.f4 false true false false W args v W' :=
  (calls H enc W base args ds gs before hval hW hz hL).mono fun e W' h => ⟨.bool true, h.1, post_true laidOut pars rfl rfl Tryd.underlying4 (fun ds hd => by
    match ds, hd with
    | [d1, d2], _ => rfl) hW h.2⟩
noncomputable def wArgs : Array Value := #[.agg #[.int .i64 0, .slice none 0 0], .int .i64 0]
/-- the world with the handle laid -/
noncomputable def hWorld (os : Os) : World := (World.holding Tryd.prog os ⟨#[], #[], []⟩).setCell ⟨9, 0, none⟩ (.iface 108 (.agg #[.pointer (some ⟨10, 32, none⟩)]))
def plainLaid : List (String × DataW Unit) := Rows.satCountsRow.laid.filter fun x => x.2.handleName?.isNone
noncomputable def wWorld (os : Os) : World := (hWorld os).layVars Tryd.prog plainLaid
theorem wWorld_os (os : Os) : (wWorld os).os = os := World.layVars_os _ _ _
theorem met_plain (os : Os) : laidMet Tryd.prog plainLaid (wWorld os) := by
  have e1 : (plainLaid.filter fun x => (plainLaid.map (·.1)).contains x.1) = plainLaid := List.filter_eq_self.2 fun x hx => List.contains_iff_mem.2 (List.mem_map.2 ⟨x, hx, rfl⟩)
  have e2 : (plainLaid.filter fun x => !(plainLaid.map (·.1)).contains x.1) = [] := List.filter_eq_nil_iff.2 fun x hx => by rw [List.contains_iff_mem.2 (List.mem_map.2 ⟨x, hx, rfl⟩)]; simp
  exact laidMet_layVars (w0 := hWorld os) (plainLaid.map (·.1)) [] (by rw [e1]; rfl) (by rw [e1]; kernel_rfl) (by rw [e1]; kernel_rfl) (by rw [e2]; exact LaidIn.none)
theorem met (os : Os) (args : Array Value) : laidMetH Tryd.prog Rows.satCountsRow.laid ((wWorld os).forCall (fun _ _ => 0) ⟨#[], args, []⟩).memory :=
  laidMetH_of_parts ((met_plain os).of_heap (by simp [World.memory, World.forCall, Input.heap])) (by kernel_rfl)
theorem reads (os : Os) {H : Type} (enc : TypeId × Value → H) : ∃ places, DataW.whole enc Tryd.prog ((wWorld os).forCall (fun _ _ => 0) ⟨#[], wArgs, []⟩).memory Tryd.f4.params.toList Rows.satCountsSpec.vars false wArgs.toList 8 = some ([.agg [.lit (.int .i64 0), .nil], .lit (.int .i64 0)], [], places) :=
  ⟨[], by kernel_rfl⟩
set_option maxRecDepth 100000 in
theorem lifted (os : Os) (started : os.Started) (H : Type) (enc : TypeId × Value → H) (F : Stop.Interp) :
    ReturnsInHanded {} Tryd.checked os 4 .any ((OpenSpec.ofChange Rows.satCountsSpec).preRow enc Tryd.prog Tryd.f4 Rows.satCountsRow.domain false Rows.satCountsRow.laid) (((OpenSpec.ofChange Rows.satCountsSpec).at F).post enc Tryd.prog Tryd.f4 false true false false) := by
  obtain ⟨places, hx⟩ := reads os enc
  refine returnsInHanded_of_row (C := Tryd.checked) (s := OpenSpec.ofChange Rows.satCountsSpec) own started (by kernel_rfl) Tryd.func4
    (witness_row_atRef (enc := enc) (C := Tryd.checked) false (wWorld os) wArgs (wWorld_os os) (by kernel_rfl) (by kernel_rfl) (by kernel_rfl)
      (OpenSpec.preRow_of_cond 8 hx (by kernel_rfl) (fun k hk => by cases hk) (by kernel_rfl) (met os wArgs))) ?_
  intro W base args ds gs before hval hW _ _ hz hL _ _
  exact contract H enc W base args ds gs before hval hW hz hL
theorem said : Rows.SatCountsSaid :=
  OpenClaim.holds_of_cond 4 Tryd.f4 rfl rfl rfl rfl rfl rfl rfl ⟨rfl, rfl, rfl, rfl, rfl⟩ rfl rfl rfl rfl rfl named_f Tryd.func4 closed apart_ wrapper_
    (fun os started H enc _ F => by rw [OpenClaim.pre_eq_preRow]; exact lifted os started H enc F)
theorem t1 : Rows.satCountsRow.wfByText (OpenSpec.ofChange Rows.satCountsSpec) = true := by kernel_rfl
theorem t2 : Tryd.pinned.checked.prog.mainIs = some (Rows.satCountsCard.stood.harness.1, Rows.satCountsCard.stood.harness.2.toList) := by kernel_rfl
theorem t3 : false = Rows.satCountsRow.goesBy Tryd.pinned.checked.prog := by kernel_rfl
/-- THE CARD -/
theorem card : Rows.SatCountsCardSaid :=
  Claim7.holds_tied_plain_at .later [] _ _ _ _ said (fun _ h => by cases h) t1 (fun _ h => by cases h) satCounts_row_tie rfl ⟨rfl, rfl⟩ t2 rfl looks t3
end Go.Proofs.YtaedbnbeelkkcaaDoor.satCounts
namespace Go.Proofs.YtaedbnbeelkkcaaDoor
/-- for every input the law SatCounts answers true -/
theorem satCounts_holds : Rows.SatCountsCardSaid := satCounts.card
end Go.Proofs.YtaedbnbeelkkcaaDoor
