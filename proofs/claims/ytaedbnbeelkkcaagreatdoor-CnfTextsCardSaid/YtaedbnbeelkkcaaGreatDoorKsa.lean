/-
  THE LAW CnfTexts, called with whatever can be read.
-/
import Derived.Test.YtaedbnbeelkkcaaGreatDoorLn
import Derived.Test.YtaedbnbeelkkcaaGreatDoorTg
import Derived.ChangeMaps5
import Derived.Deep.Matrix
import Derived.Lib.SmallJoins
namespace Go.Proofs.YtaedbnbeelkkcaaGreatDoor
open Go.ChangeShapes Go.WideShapes Go.ChangeAt Go.RowKit
section
theorem intRow_fits {H : Type} {P : Program} {t q : TypeId} (ht : P.underlying t = some (.slice q)) (hb : P.bytesOf q = 8) (k : IntKind) (A : Option Addr) (L : Nat) (zs : List Int) (hA : A = none → zs.length = 0)
    (hw : ∀ z ∈ DataW.weights P t (Go.Deep.intRow (H := H) k A L zs), z ≤ reachBytes) : (zs.take L).length ≤ 17592186043904 := by
  cases A with
  | none =>
    have := hA rfl
    rw [List.length_take]; omega
  | some a =>
    have h := hw (((lits (H := H) k (zs.take L)).length + (lits (H := H) k (zs.drop L)).length) * P.bytesOf q) (by
      simp only [Go.Deep.intRow, DataW.weights, ht]
      exact List.mem_cons_self)
    rw [hb] at h
    unfold lits reachBytes at h
    simp only [List.length_map] at h
    omega
theorem rows_fit {H : Type} {P : Program} {t q : TypeId} (ht : P.underlying t = some (.slice q)) (hb : P.bytesOf q = 8) (k : IntKind) (A : Nat → Option Addr) (L : Nat → Nat) (Z : Nat → List Int) : ∀ (l : List Nat), (∀ r ∈ l, A r = none → (Z r).length = 0) →
    (∀ z ∈ DataW.weightsAll P t (l.map fun r => Go.Deep.intRow (H := H) k (A r) (L r) (Z r)), z ≤ reachBytes) → ∀ x ∈ l.map (fun r => (Z r).take (L r)), x.length ≤ 17592186043904
  | [], _, _ => fun x hx => by cases hx
  | y :: r, h, hw => fun x hx => by
    simp only [List.map_cons, DataW.weightsAll] at hw
    rw [List.map_cons] at hx
    rcases List.mem_cons.1 hx with e | hx
    · rw [e]
      exact intRow_fits ht hb k (A y) (L y) (Z y) (h y (by simp)) fun z hz => hw z (List.mem_append_left _ hz)
    · exact rows_fit ht hb k A L Z r (fun u hu => h u (List.mem_cons_of_mem _ hu)) (fun z hz => hw z (List.mem_append_right _ hz)) x hx
theorem weights_first {H : Type} {P : Program} {t : TypeId} {ts : List TypeId} {d : DataW H} {ds : List (DataW H)} (h : (DataW.weightsEach P (t :: ts) (d :: ds)).all (· ≤ reachBytes) = true) : ∀ z ∈ DataW.weights P t d, z ≤ reachBytes := fun z hz => by
  have := List.all_eq_true.1 h z (by simp only [DataW.weightsEach]; exact List.mem_append_left _ hz)
  simpa using this
end
set_option maxRecDepth 100000 in
/-- what a reading of rows gives -/
theorem open_cls {H : Type} {enc : TypeId × Value → H} {W : World} {v : Value} {y : DataW H × List MemPlace} {fuel : Nat} {cs0 : List Value} (hcs : cs0 = [v])
    (h : DataW.trod enc Tryz.prog W 0 (fun _ => true) true fuel 22 cs0 = some y) :
    ∃ (A : Option Addr) (n c : Nat) (cs : List (List Int)), v = .slice A n c ∧ cs.length = n ∧ ClsR W W.heap.size A cs ∧ ((∀ z ∈ DataW.weights Tryz.prog 22 y.1, z ≤ reachBytes) → Fits cs) := by
  rcases Go.Deep.open_int_rows Tryz.underlying22 Tryz.underlying43 Tryz.underlying3 (by kernel_rfl) (by kernel_rfl) h with ⟨e1, _⟩ | ⟨a, len, cap, A, L, C, Z, e1, _, hlc, _, hy, hr⟩
  · rw [hcs] at e1
    obtain rfl : v = .slice none 0 0 := by simpa using e1
    exact ⟨none, 0, 0, [], rfl, rfl, fun h => absurd h (by simp), fun _ => ⟨by simp, by simp⟩⟩
  · rw [hcs] at e1
    obtain rfl : v = .slice (some a) len cap := by simpa using e1
    refine ⟨some a, len, cap, (List.range len).map fun r => (Z r).take (L r), rfl, by simp, fun hn => ?_, ?_⟩
    · have hn : 0 < len := by simpa using hn
      refine ⟨a, rfl, ?_, fun i l hl => ?_⟩
      · have := World.block_lt_of_cell? W _ (hr 0 (by omega)).1
        simpa [block_of_add] using this
      · obtain ⟨hi, rfl⟩ : i < len ∧ (Z i).take (L i) = l := by
          rw [List.getElem?_map] at hl
          cases hri : (List.range len)[i]? with
          | none => rw [hri] at hl; cases hl
          | some j =>
            rw [hri] at hl
            obtain ⟨hi, e⟩ := List.getElem?_eq_some_iff.1 hri
            rw [List.getElem_range] at e
            subst e
            exact ⟨by simpa using hi, by simpa using hl⟩
        obtain ⟨k1, k2, k3, k4, _, k6, k7⟩ := hr i (by omega)
        have hlen : ((Z i).take (L i)).length = L i := by rw [List.length_take]; omega
        refine ⟨A i, C i, by rw [hlen]; exact k1, ?_, fun hp => ?_⟩
        · unfold litVals; simp
        · rw [hlen] at hp
          cases hA : A i with
          | none => have := k6 hA; omega
          | some a' =>
            have k8 := (k7 a' hA).2
            refine ⟨a', rfl, ?_, fun j u hu => ?_⟩
            · have := World.block_lt_of_cell? W _ (k8 0 (by omega))
              simpa [block_of_add] using this
            · unfold litVals at hu
              rw [List.getElem?_map] at hu
              cases hz : ((Z i).take (L i))[j]? with
              | none => rw [hz] at hu; cases hu
              | some z =>
                rw [hz] at hu
                obtain rfl : Value.int .i64 z = u := by simpa using hu
                obtain ⟨hj, _⟩ := List.getElem?_eq_some_iff.1 hz
                rw [hlen] at hj
                have hz2 : (Z i)[j]? = some z := by
                  rw [List.getElem?_take] at hz
                  simpa [hj] using hz
                have := k8 j (by omega)
                rw [this, List.getD_eq_getElem?_getD, hz2]; rfl
    · intro hw
      rw [hy] at hw
      simp only [DataW.weights, Tryz.underlying22] at hw
      refine ⟨?_, rows_fit Tryz.underlying43 (by kernel_rfl) .i64 A L Z (List.range len) (fun r hr' hA => by
        have hr'' := List.mem_range.1 hr'
        obtain ⟨_, _, _, k4, _, k6, _⟩ := hr r (by omega)
        rw [k4, k6 hA]) (fun z hz => hw z (List.mem_cons_of_mem _ (List.mem_append_left _ hz)))⟩
      have h1 := hw _ List.mem_cons_self
      rw [show Tryz.prog.bytesOf 43 = 24 from by kernel_rfl] at h1
      simp only [List.length_map, List.length_range] at h1 ⊢
      unfold reachBytes at h1
      omega
set_option maxRecDepth 100000 in
/-- WHAT A READING OF A FORMULA GIVES -/
theorem open_form {H : Type} {enc : TypeId × Value → H} {W : World} {base : Nat} {v : Value} {d : DataW H} {p : List MemPlace}
    (hv : Value.okWide Tryz.prog W .any base 24 v) (h : DataW.Trod enc Tryz.prog W 0 (fun _ => true) true 24 v d p) :
    ∃ (x : Int) (A : Option Addr) (n c : Nat) (cs : List (List Int)), v = .agg #[.int .i64 x, .slice A n c] ∧ cs.length = n ∧ ClsR W W.heap.size A cs ∧ ((∀ z ∈ DataW.weights Tryz.prog 24 d, z ≤ reachBytes) → Fits cs) := by
  obtain ⟨v0, v1, y0, y1, m, rfl, rfl, _, h0, h1⟩ := Joins.open_agg2 Tryz.underlying24 (by kernel_rfl) (by kernel_rfl) hv h
  obtain ⟨x, e0, _, _⟩ := DataW.trod_int Tryz.underlying3 h0
  obtain rfl : v0 = .int .i64 x := by simpa using e0
  obtain ⟨A, n, c, cs, rfl, hn, hr, hb⟩ := open_cls rfl h1
  refine ⟨x, A, n, c, cs, rfl, hn, hr, fun hw => hb fun z hz => hw z ?_⟩
  simp only [DataW.weights, Tryz.underlying24]
  show z ∈ DataW.weightsEach Tryz.prog [3, 22] [_, _]
  simp only [DataW.weightsEach]
  exact List.mem_append_right _ (List.mem_append_left _ hz)
end Go.Proofs.YtaedbnbeelkkcaaGreatDoor
namespace Go.Proofs.YtaedbnbeelkkcaaGreatDoor
open Go.ChangeShapes Go.WideShapes Go.ChangeAt Go.RowKit
/-- the handle's cell -/
theorem handle_any {P : Program} {W : World} {l : List (String × DataW Unit)} (h : laidMetH P l W) {u ty size : Nat} {d : DataW Unit} (hd : d = .iface "internal/reflectlite.rtype" (.agg [.ptr (.lit (.string [101, 114, 114, 111, 114]))])) (hm : ("errors.errorType", d) ∈ l)
    (hs : P.types.size = size) (hrt : (P.cutTypes.find? (·.1 == "internal/reflectlite.rtype")).map (·.2) = some u) (hone : ((List.range size).filter fun t => P.rowNamed t [101, 114, 114, 111, 114]) = [ty]) {g : Nat} (hg : P.globalNamed "errors.errorType" = some g) :
    W.cell? ⟨g, 0, none⟩ = some (.iface u (.agg #[typeHandle P ty])) := by
  have hf : d.funcsIn? = none := by rw [hd]; rfl
  have hn : d.handleName? = some [101, 114, 114, 111, 114] := by rw [hd]; rfl
  have h2 := (laidMetH_iff.1 h).2 ("errors.errorType", d) (List.mem_filter.2 ⟨hm, by rw [hn]; rfl⟩)
  simp only [hf] at h2
  obtain ⟨name, u', ty', e1, e2, e3, e4, e5⟩ := h2
  obtain rfl := Option.some.inj (hn.symm.trans e1)
  obtain rfl := Option.some.inj (hrt.symm.trans e2)
  have hm : ty' ∈ (List.range size).filter fun t => P.rowNamed t [101, 114, 114, 111, 114] := List.mem_filter.2 ⟨List.mem_range.2 (by rw [← hs]; exact e3), e4⟩
  rw [hone] at hm
  obtain rfl := List.mem_singleton.1 hm
  simpa using World.var?_cell hg e5 0
/-- the sentinels' texts -/
def errText : Nat → List UInt8
  | 1 => [108, 117, 115, 116, 114, 117, 109, 58, 32, 116, 101, 120, 116]
  | 2 => [108, 117, 115, 116, 114, 117, 109, 58, 32, 98, 111, 117, 110, 100]
  | 3 => [108, 117, 115, 116, 114, 117, 109, 58, 32, 115, 104, 97, 112, 101]
  | 4 => [108, 117, 115, 116, 114, 117, 109, 58, 32, 110, 97, 109, 101]
  | 5 => [108, 117, 115, 116, 114, 117, 109, 58, 32, 116, 121, 112, 101]
  | 6 => [108, 117, 115, 116, 114, 117, 109, 58, 32, 99, 121, 99, 108, 101]
  | 7 => [108, 117, 115, 116, 114, 117, 109, 58, 32, 102, 105, 114, 115, 116]
  | 8 => [108, 117, 115, 116, 114, 117, 109, 58, 32, 112, 114, 111, 111, 102]
  | _ => [108, 117, 115, 116, 114, 117, 109, 58, 32, 110, 111, 110, 101]
theorem errText_ne : ∀ j k : Fin 10, 1 ≤ j.val → 1 ≤ k.val → j ≠ k → errText j.val ≠ errText k.val := by decide +kernel
def errList : List (String × DataW Unit) := [("errors.errorType", Rows.laid_errors_errorType), ("lustrum/api.ErrText", Rows.laid_lustrum_api_ErrText), ("lustrum/api.ErrBound", Rows.laid_lustrum_api_ErrBound), ("lustrum/api.ErrShape", Rows.laid_lustrum_api_ErrShape), ("lustrum/api.ErrName", Rows.laid_lustrum_api_ErrName), ("lustrum/api.ErrType", Rows.laid_lustrum_api_ErrType), ("lustrum/api.ErrCycle", Rows.laid_lustrum_api_ErrCycle), ("lustrum/api.ErrFirst", Rows.laid_lustrum_api_ErrFirst), ("lustrum/api.ErrProof", Rows.laid_lustrum_api_ErrProof), ("lustrum/api.ErrNone", Rows.laid_lustrum_api_ErrNone)]
theorem et_g : Tryz.prog.globalNamed "errors.errorType" = some 9 := by kernel_rfl
theorem et_rt : (Tryz.prog.cutTypes.find? (·.1 == "internal/reflectlite.rtype")).map (·.2) = some 106 := by kernel_rfl
theorem et_one : ((List.range Tryz.prog.types.size).filter fun t => Tryz.prog.rowNamed t [101, 114, 114, 111, 114]) = [28] := by kernel_rfl
theorem et_handle : typeHandle Tryz.prog 28 = .pointer (some ⟨18, 28, none⟩) := by kernel_rfl
theorem api_g : ∀ k, 1 ≤ k → k ≤ 9 → Tryz.prog.globalNamed ("lustrum/api." ++ (["", "ErrText", "ErrBound", "ErrShape", "ErrName", "ErrType", "ErrCycle", "ErrFirst", "ErrProof", "ErrNone"].getD k "")) = some (gvar k) ∧ (Tryz.prog.globals[gvar k]?).map (·.type) = some 28 := by
  intro k h1 h2
  have : k = 1 ∨ k = 2 ∨ k = 3 ∨ k = 4 ∨ k = 5 ∨ k = 6 ∨ k = 7 ∨ k = 8 ∨ k = 9 := by omega
  rcases this with rfl | rfl | rfl | rfl | rfl | rfl | rfl | rfl | rfl <;> exact ⟨by kernel_rfl, by kernel_rfl⟩
theorem api_in : ∀ k, 1 ≤ k → k ≤ 9 → ("lustrum/api." ++ (["", "ErrText", "ErrBound", "ErrShape", "ErrName", "ErrType", "ErrCycle", "ErrFirst", "ErrProof", "ErrNone"].getD k ""), sentD (errText k)) ∈ errList := by
  intro k h1 h2
  have : k = 1 ∨ k = 2 ∨ k = 3 ∨ k = 4 ∨ k = 5 ∨ k = 6 ∨ k = 7 ∨ k = 8 ∨ k = 9 := by omega
  have key : ∀ (i : Nat) (x : String × DataW Unit), errList[i]? = some x → x ∈ errList := fun i x h => List.mem_of_getElem? h
  rcases this with rfl | rfl | rfl | rfl | rfl | rfl | rfl | rfl | rfl
  · exact key 1 _ rfl
  · exact key 2 _ rfl
  · exact key 3 _ rfl
  · exact key 4 _ rfl
  · exact key 5 _ rfl
  · exact key 6 _ rfl
  · exact key 7 _ rfl
  · exact key 8 _ rfl
  · exact key 9 _ rfl
/-- WHAT THE LIST GIVES A WALK. -/
theorem errs_of_laid {W : World} {l : List (String × DataW Unit)} (h : laidMetH Tryz.prog l W) (hsub : ∀ x ∈ errList, x ∈ l) : ∃ ea, Errs W ea W.heap.size := by
  have all : ∀ k : Nat, ∃ a : Addr, 1 ≤ k → k ≤ 9 → W.cell? ⟨gvar k, 0, none⟩ = some (.iface 152 (.pointer (some a))) ∧ (∃ s : ByteArray, W.cell? a = some (.string s) ∧ s.data.toList = errText k) ∧ ∃ c t, W.heap[a.block]? = some (.cells c t (0, 0)) := by
    intro k
    by_cases hk : 1 ≤ k ∧ k ≤ 9
    · obtain ⟨h1, h2⟩ := api_g k hk.1 hk.2
      obtain ⟨a, s, e1, e2, e3, e4⟩ := sent_of_laid h (hsub _ (api_in k hk.1 hk.2)) h1 h2
      exact ⟨a, fun _ _ => ⟨e1, ⟨s, e2, e3⟩, e4⟩⟩
    · exact ⟨⟨0, 0, none⟩, fun h1 h2 => absurd ⟨h1, h2⟩ hk⟩
  obtain ⟨ea, hea⟩ := Classical.axiomOfChoice all
  have hvar : ∀ k, 1 ≤ k → k ≤ 9 → W.cell? ⟨gvar k, 0, none⟩ = some (errV ea k) := fun k h1 h2 => by
    rw [(hea k h1 h2).1]
    match k, h1 with
    | k + 1, _ => rfl
  have het := handle_any h rfl (hsub _ (List.mem_of_getElem? (i := 0) rfl)) rfl et_rt et_one et_g
  rw [et_handle] at het
  refine ⟨ea, hvar, fun k => ?_, fun k h1 h2 => ?_, fun j k j1 j2 k1 k2 hne he => ?_, het, World.block_lt_of_cell? _ _ het⟩
  · by_cases hk : 1 ≤ k ∧ k ≤ 9
    · exact World.block_lt_of_cell? _ _ (hvar k hk.1 hk.2)
    · have e : gvar k = gvar 9 := by
        match k, hk with
        | 0, _ => rfl
        | k + 9, hk =>
          match k, hk with
          | 0, _ => rfl
          | k + 1, _ => rfl
      rw [e]
      exact World.block_lt_of_cell? _ _ (hvar 9 (by decide) (by decide))
  · obtain ⟨_, ⟨s, hc, _⟩, h3⟩ := hea k h1 h2
    exact ⟨World.block_lt_of_cell? _ _ hc, h3⟩
  · obtain ⟨_, ⟨s, hc, hs⟩, _⟩ := hea j j1 j2
    obtain ⟨_, ⟨s', hc', hs'⟩, _⟩ := hea k k1 k2
    rw [he, hc'] at hc
    obtain rfl : s' = s := by simpa using hc
    exact errText_ne ⟨j, by omega⟩ ⟨k, by omega⟩ j1 k1 (by simpa using hne) (hs.symm.trans hs')
end Go.Proofs.YtaedbnbeelkkcaaGreatDoor
namespace Go.Proofs.YtaedbnbeelkkcaaGreatDoor.cnfTexts
open Go.ChangeShapes Go.WideShapes Go.ChangeAt Go.RowKit
theorem sent_in {W : World} (hL : laidMetH Tryz.prog Rows.cnfTextsRow.laid W) {n : String} {text : List UInt8} {g : Nat} (hm : (n, sentD text) ∈ Rows.cnfTextsRow.laid) (hg : Tryz.prog.globalNamed n = some g) (ht : (Tryz.prog.globals[g]?).map (·.type) = some 28) :
    ∃ t p, W.cell? ⟨g, 0, none⟩ = some (.iface t p) := by
  obtain ⟨a, _, h, _⟩ := sent_of_laid hL hm hg ht
  exact ⟨_, _, h⟩
theorem tens_in {W : World} (hL : laidMetH Tryz.prog Rows.cnfTextsRow.laid W) : Tens W :=
  tab_of_laid hL (g := 10) (t := 132) (e := 100) (n := 20) (List.mem_of_getElem? (i := 2) rfl) (by kernel_rfl) (by kernel_rfl) Tryz.underlying132 Tryz.underlying100 (by kernel_rfl) (by kernel_rfl)
theorem errs_in {W : World} (hL : laidMetH Tryz.prog Rows.cnfTextsRow.laid W) : ∃ ea, Errs W ea W.heap.size :=
  errs_of_laid hL fun x hx => by
    obtain ⟨i, hi⟩ := List.mem_iff_getElem?.1 hx
    have key : ∀ j (hj : j < 10), errList[j]? = Rows.cnfTextsRow.laid[j + 4]? := by
      intro j hj
      have : j = 0 ∨ j = 1 ∨ j = 2 ∨ j = 3 ∨ j = 4 ∨ j = 5 ∨ j = 6 ∨ j = 7 ∨ j = 8 ∨ j = 9 := by omega
      rcases this with rfl | rfl | rfl | rfl | rfl | rfl | rfl | rfl | rfl | rfl <;> rfl
    have hlt : i < 10 := (List.getElem?_eq_some_iff.1 hi).1
    rw [key i hlt] at hi
    exact List.mem_of_getElem? hi
set_option maxRecDepth 100000 in
theorem calls (H : Type) (enc : TypeId × Value → H) (W : World) (base : Nat) (args : Array Value) (ds gs : List (DataW H)) (before : List MemPlace)
    (hval : ∀ (j : Nat) t v, Tryz.f3.params[j]? = some t → args[j]? = some v → Value.okWide Tryz.prog W .any base t v)
    (hW : DataW.Whole enc Tryz.prog Tryz.f3.params.toList Rows.cnfTextsSpec.vars false W args.toList ds gs before) (hz : (DataW.weightsEach Tryz.prog (Tryz.f3.params.toList ++ (OpenSpec.ofChange Rows.cnfTextsSpec).bare.plain.varTypes Tryz.prog) (ds ++ gs)).all (· ≤ reachBytes) = true) (hL : laidMetH Tryz.prog Rows.cnfTextsRow.laid W) (hsh : W.ShapedOpen Tryz.prog) :
    Calls Tryz.prog 3 args W (LPost2 W) := by
  obtain ⟨p, q, hA0, hV, rfl, hfz, hnd⟩ := hW
  have hA : DataW.TrodAll enc Tryz.prog W 0 (fun _ => true) true Tryz.f3.params.toList args.toList ds p := hA0
  rw [Tryz.params3] at hA hval hz
  obtain ⟨v0, vs0, d0, ds0, p0, q0, hargs, rfl, rfl, h0, r0⟩ := trodAll_cons hA
  obtain ⟨rfl, rfl, rfl⟩ := trodAll_nil r0
  obtain rfl : args = #[v0] := by cases args; simp_all
  obtain ⟨x, A, n, c, cs, rfl, hn, hr, hb⟩ := open_form (hval 0 24 v0 rfl rfl) h0
  have hbd : Fits cs := hb (weights_first hz)
  obtain ⟨ea, hes⟩ := errs_in hL
  have hr1 := sent_in hL (g := 13) (text := [118, 97, 108, 117, 101, 32, 111, 117, 116, 32, 111, 102, 32, 114, 97, 110, 103, 101]) (List.mem_of_getElem? (i := 14) rfl) (by kernel_rfl) (by kernel_rfl)
  have hy := sent_in hL (g := 12) (text := [105, 110, 118, 97, 108, 105, 100, 32, 115, 121, 110, 116, 97, 120]) (List.mem_of_getElem? (i := 15) rfl) (by kernel_rfl) (by kernel_rfl)
  exact texts_any hn hes (Nat.le_refl _) (tens_in hL) ⟨hy, hr1⟩ (Tryz.laysM146.s1_3 W hsh) hbd hr (Nat.le_refl _)
end Go.Proofs.YtaedbnbeelkkcaaGreatDoor.cnfTexts
