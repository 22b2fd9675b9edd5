/-
  A solver's proof passes the checker.
  WHAT THE ROW's LIST GIVES: the three sentinels.
-/
import Derived.Test.YtchpfdppfelmkaaDoorM0
import Derived.Test.YtchpfdppfelmkaaDoorAi
import Derived.Test.YtchpfdppfelmkaaDoorZe
import Derived.Test.YtchpfdppfelmkaaDoorLn
import Derived.ChangeMaps5
import Derived.Deep.Matrix
import Derived.Lib.SmallJoins
namespace Go.Proofs.YtchpfdppfelmkaaDoor.slv
open Go.RowKit
theorem okC_nil (v : Int) : okC v [] = true := rfl
theorem pfR_ends {v : Int} : ∀ {pf L : List (List Int)} {i : Nat} {fin : Bool}, (∀ (j : Nat) (c : List Int), pf[j]? = some c → Ref (L ++ pf.take j) c) → (∀ c ∈ pf, okC v c = true) → Ref (L ++ pf) [] → pfR v L i fin (pf ++ [[]]) = (0, -1)
  | [], L, i, fin, _, _, h3 => by
    rw [List.append_nil] at h3
    rw [List.nil_append]
    unfold pfR
    rw [if_pos (okC_nil v), if_pos h3]
    unfold pfR
    rw [if_pos (by simp)]
  | c :: r, L, i, fin, h1, h2, h3 => by
    rw [List.cons_append]
    unfold pfR
    rw [if_pos (h2 c List.mem_cons_self), if_pos (by have := h1 0 c rfl; simpa using this)]
    refine pfR_ends (fun j d hd => ?_) (fun d hd => h2 d (List.mem_cons_of_mem _ hd)) (by simpa using h3)
    have := h1 (j + 1) d (by simpa using hd)
    simpa using this
theorem okC_of {V : Nat} {c : List Int} (h : ∀ y ∈ c, Lit V y) : okC (V : Int) c = true := okC_lit.2 h
theorem pf_ends {V : Nat} {F pf : List (List Int)} (h : PfOk V F pf) (hr : Ref (F ++ pf) []) : pfR (V : Int) F 0 false (pf ++ [[]]) = (0, -1) :=
  pfR_ends (fun j c hc => h.ref j c hc) (fun c hc => okC_of fun y hy => ((h.lit c hc).2.2 y hy).1) hr
/-- the proof in memory, as the checker reads it -/
theorem PrA.in_ {w : World} {tag : Nat → Tag} {A : Option Addr} {n c : Nat} {pf : List (List Int)} (h : PrA w tag (.slice A n c) pf) (hn : pf.length = n) : CsIn w 0 A pf := fun i l hi => by
  obtain ⟨rows, h1, h2, h3⟩ := h
  have hlt := (List.getElem?_eq_some_iff.1 hi).1
  obtain ⟨u, hu⟩ : ∃ u, rows[i]? = some u := ⟨_, List.getElem?_eq_getElem (by omega)⟩
  obtain ⟨g, c', hv, _, _⟩ := h1.own.form (by omega)
  injection hv with q1 q2 q3
  subst q1
  have hr : Row w tag (15, 0) 0 26 (.slice (some ⟨g, 0, none⟩) rows.length c) rows := by rw [h2, hn]; exact h1
  refine ⟨g, u, rfl, hr.cell hu, ?_⟩
  have := (h3 i l u hi hu).own
  rw [litVals_len] at this
  exact this
/-- a search that has ended without a model has a proof -/
theorem check_no {w : World} {ea : Nat → Addr} {V fuel n c n2 c2 base : Nat} {A A2 : Option Addr} {F pf : List (List Int)} {s0 s' : SS} {tag : Nat → Tag} (hes : Sen3 w ea) (hV : V ≤ 1000) (hcs : CsAt w base (.slice A n c) F) (hn : F.length = n) (hn5 : n ≤ 400000) (hlit : ∀ d ∈ F, d.length ≤ 100000 ∧ ∀ z ∈ d, Lit V z)
    (e0 : newM V F = some s0) (hfu : fuel ≤ 100000) (hsr : searchM V 100000 fuel s0 = some (.no pf, s')) (hpr : PrA w tag (.slice A2 n2 c2) pf) (hn2 : pf.length = n2) :
    Calls Tryd.prog 18 #[.agg #[.int .i64 (V : Nat), .slice A n c], .slice A2 n2 c2] w fun e w' => e = .returned .nilIface ∧ Below w.heap.size w w' := by
  obtain ⟨s0', e0', hsi0, hl0, _, hp0⟩ := newM_ok (V := V) (F := F) (fun d hd => (hlit d hd).2) (by omega)
  obtain rfl : s0 = s0' := by rw [e0] at e0'; injection e0' with e
  obtain ⟨hE, hpl, _⟩ := searchM_part (by omega) hsi0 hl0 (by rw [hp0]; simp; omega) hsr
  obtain ⟨h1, h2, h3⟩ := hE
  rw [hp0] at hpl
  have hpl : s'.pf.length ≤ fuel := by simpa using hpl
  have hlen : pf.length ≤ 100001 := by rw [h1]; simp; omega
  have hls2 : ∀ x ∈ pf, x.length ≤ 100000 := by
    intro x hx
    rw [h1] at hx
    rcases List.mem_append.1 hx with hx | hx
    · obtain ⟨g1, _, g3⟩ := h2.lit x hx
      have := nodup_lit_le g1 (fun y hy => (g3 y hy).1)
      omega
    · obtain rfl : x = [] := by simpa using hx
      simp
  refine (rcheck_any (v := ((V : Nat) : Int)) (c := c) (c2 := c2) hes hcs hn (hpr.in_ hn2) hn2 (by omega) (fun x hx => (hlit x hx).1) hls2).mono ?_
  rintro e w' ⟨ev, cd, pl, rfl, hb, hpf, hev⟩
  have hF : FaultIs (V : Int) F 0 (-1) := .inr ⟨by unfold Off; omega, .inr ⟨rfl, rfl, List.all_eq_true.2 fun d hd => okC_of (hlit d hd).2⟩⟩
  have hc0 : cd = 0 := by
    rcases hpf with ⟨hne, hf⟩ | ⟨_, hf⟩
    · exact absurd (faultIs_eq hf hF).1 hne
    · rw [h1, pf_ends h2 h3] at hf
      injection hf
  rcases hev.nil_iff with ⟨_, h⟩ | ⟨h, _⟩
  · exact ⟨by rw [h], hb⟩
  · omega
end Go.Proofs.YtchpfdppfelmkaaDoor.slv
namespace Go.Proofs.YtchpfdppfelmkaaDoor
open Go.ChangeShapes Go.WideShapes Go.ChangeAt Go.RowKit
def senList : List (String × DataW Unit) := [("lustrum/api.ErrBound", Rows.laid_lustrum_api_ErrBound), ("lustrum/api.ErrShape", Rows.laid_lustrum_api_ErrShape), ("lustrum/api.ErrProof", Rows.laid_lustrum_api_ErrProof)]
theorem sen_of_laid {W : World} {l : List (String × DataW Unit)} (h : laidMetH Tryd.prog l W) (hsub : ∀ x ∈ senList, x ∈ l) : ∃ ea, Sen3 W ea := by
  have key : ∀ (i : Nat) (x : String × DataW Unit), senList[i]? = some x → x ∈ l := fun i x h => hsub x (List.mem_of_getElem? h)
  obtain ⟨a2, _, e2, _⟩ := sent_of_laid h (key 0 ("lustrum/api.ErrBound", sentD [108, 117, 115, 116, 114, 117, 109, 58, 32, 98, 111, 117, 110, 100]) rfl) (g := 0) (by kernel_rfl) (by kernel_rfl)
  obtain ⟨a8, _, e8, _⟩ := sent_of_laid h (key 2 ("lustrum/api.ErrProof", sentD [108, 117, 115, 116, 114, 117, 109, 58, 32, 112, 114, 111, 111, 102]) rfl) (g := 7) (by kernel_rfl) (by kernel_rfl)
  obtain ⟨a3, _, e3, _⟩ := sent_of_laid h (key 1 ("lustrum/api.ErrShape", sentD [108, 117, 115, 116, 114, 117, 109, 58, 32, 115, 104, 97, 112, 101]) rfl) (g := 1) (by kernel_rfl) (by kernel_rfl)
  exact ⟨fun k => if k = 2 then a2 else if k = 3 then a3 else a8, ⟨e2, e3⟩, e8⟩
end Go.Proofs.YtchpfdppfelmkaaDoor
