/-
  A WALK OF A REGION THAT DRAWS, in an order that is written out: what yields its value in every world that meets S comes up where the walk has it; what acts is the one that may come up.
-/
import Derived.Test.YtaedbnbeelkkcaaDoorBa
import Derived.OrdersHeld
import Derived.Deep.RegionHeld3
namespace Go.Proofs.YtaedbnbeelkkcaaDoor
section
variable {P : Program} {ops : Array Oper} {md : Region.Mode} {S : World → Prop} {Q : Exit → Act → World → Prop}
/-- (i, false): number i yields its value in every world that meets S. (i, true): it is carried out, and S is shown anew. -/
def wpSeq (P : Program) (ops : Array Oper) (S : World → Prop) (Q : Exit → Act → World → Prop) : List (Nat × Bool) → Act → World → Prop
  | [], a, w => Q .normal a w
  | (i, false) :: r, a, w => ∃ oi v, ops[i]? = some oi ∧ YieldsIf P ops S oi v a ∧ wpSeq P ops S Q r (a.put oi.dst v) w
  | (i, true) :: r, a, w => wpOp P ops Q i (fun a' w' => S w' ∧ wpSeq P ops S Q r a' w') a w
/-- may the order be walked? -/
def okSeq (md : Region.Mode) (ops : Array Oper) : List (Nat × Bool) → Array Bool → Bool
  | [], listed => (Region.ready md ops listed).isEmpty
  | (i, false) :: r, listed => Region.free md ops listed i && (Region.ready md ops listed).contains i && okSeq md ops r (listed.setIfInBounds i true)
  | (i, true) :: r, listed => (Region.ready md ops listed == [i]) && okSeq md ops r (listed.setIfInBounds i true)
theorem wpAnyH_seq (hsel : Region.noSelect ops = true) (hQ : ∀ c (a : Act) d v w, Q (.panic c) (a.put d v) w → Q (.panic c) a w) :
    ∀ (l : List (Nat × Bool)) (listed : Array Bool) (a : Act) (w : World), okSeq md ops l listed = true → S w → wpSeq P ops S Q l a w → wpAnyH P md ops Q S l.length listed a w
  | [], listed, a, w, hok, _, h => wpAnyH_done (by simpa [okSeq] using hok) h 0
  | (i, false) :: r, listed, a, w, hok, hS, h => by
    simp only [okSeq, Bool.and_eq_true] at hok
    obtain ⟨oi, v, ho, hy, h⟩ := h
    exact wpAnyH_take ho hsel hok.1.1 hok.1.2 (fun c a w => hQ c a _ _ w) hy hS (wpAnyH_seq hsel hQ r _ _ _ hok.2 hS h)
  | (i, true) :: r, listed, a, w, hok, hS, h => by
    simp only [okSeq, Bool.and_eq_true, beq_iff_eq] at hok
    refine wpAnyH_all hok.1 (by simp) fun j hj => ?_
    obtain rfl := List.mem_singleton.1 hj
    exact wpOp_mono (fun a' w' h' => ⟨h'.1, wpAnyH_seq hsel hQ r _ _ _ hok.2 h'.1 h'.2⟩) h
/-- the beginning: no operation panics -/
theorem wp_region_seq {id : Nat} {a : Act} {w : World} (l : List (Nat × Bool)) (hm : P.follows .mixedOrders = true) (hsel : Region.noSelect ops = true) (hok : (okSeq .any ops l (Array.replicate ops.size false) && l.length == ops.size) = true)
    (hS : S w.drew) (h : wpSeq P ops S (NoPanic Q) l a w.drew) : (Code.region id ops true).wp P Q a w := by
  simp only [Bool.and_eq_true, beq_iff_eq] at hok
  have := wpAnyH_seq hsel (fun _ _ _ _ _ h => h) l _ a _ hok.1 hS h
  rw [hok.2] at this
  exact wp_region_noPanic (wp_region_held hm this)
theorem seq_take {i : Nat} {r : List (Nat × Bool)} {a : Act} {w : World} (oi : Oper) (v : Value) (ho : ops[i]? = some oi) (hw : Region.wanted oi (yielded ops a.tmps) = true)
    (hy : ∀ w, S w → (execOp a.eval oi).run P w = .ok (.value v) w) (h : wpSeq P ops S Q r (a.put oi.dst v) w) : wpSeq P ops S Q ((i, false) :: r) a w := ⟨oi, v, ho, .inl ⟨hw, hy⟩, h⟩
theorem seq_skip {i : Nat} {r : List (Nat × Bool)} {a : Act} {w : World} (oi : Oper) (ho : ops[i]? = some oi) (hw : Region.wanted oi (yielded ops a.tmps) = false)
    (h : wpSeq P ops S Q r (a.put oi.dst undef) w) : wpSeq P ops S Q ((i, false) :: r) a w := ⟨oi, undef, ho, .inr ⟨hw, rfl⟩, h⟩
theorem seq_act {i : Nat} {r : List (Nat × Bool)} {a : Act} {w : World} (oi : Oper) (ho : ops[i]? = some oi)
    (h : ∀ K : Act → World → Prop, (∀ a w, S w → wpSeq P ops S Q r a w → K a w) → if Region.wanted oi (yielded ops a.tmps) = true then Oper.wp P oi a w K Q else K (a.put oi.dst undef) w) : wpSeq P ops S Q ((i, true) :: r) a w := by
  show wpOp P ops Q i _ a w
  exact wpOp_step ho fun K' hK => h K' fun a w hS hs => hK a w ⟨hS, hs⟩
theorem seq_nil {a : Act} {w : World} (h : Q .normal a w) : wpSeq P ops S (NoPanic Q) [] a w := NoPanic.normal h
end
end Go.Proofs.YtaedbnbeelkkcaaDoor
