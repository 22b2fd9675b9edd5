/-
  A GRAPH AND ITS MODEL, side by side in memory: what one does leaves the other as it is.
-/
import Derived.Test.YtmbjhpgemphmmaaDoorMb
import Derived.Test.YtmbjhpgemphmmaaDoorGq
import Derived.Test.YtmbjhpgemphmmaaDoorCo
namespace Go.Proofs.YtmbjhpgemphmmaaDoor
open Go.RowKit

/-- objects of a graph, from block B on -/
def GT (B : Nat) (k : Nat) (o : Obj) : Prop := B ≤ k ∧ (elemOf o = some 27 ∨ elemOf o = some 89 ∨ elemOf o = none)
/-- objects of a model, from block B on -/
def MT (B : Nat) (k : Nat) (o : Obj) : Prop := B ≤ k ∧ (elemOf o = some 80 ∨ elemOf o = some 126)
/-- a graph behind the pointer to block b, whatever its map -/
def GA (w : World) (B b : Nat) (gs : List Gm.Gate) : Prop := ∃ mb, GraphAt w B b mb gs
theorem GA.len {w : World} {B b : Nat} {gs : List Gm.Gate} (h : GA w B b gs) : gs.length < 100000 := h.elim fun _ h => h.len
theorem GA.wf {w : World} {B b : Nat} {gs : List Gm.Gate} (h : GA w B b gs) : Gm.Wf gs := h.elim fun _ h => h.wf
theorem GA.low {w : World} {B b : Nat} {gs : List Gm.Gate} (h : GA w B b gs) : B ≤ w.heap.size := h.elim fun _ h => h.low
theorem GraphAt.types {w : World} {B b : Nat} {mb : Option Nat} {gs : List Gm.Gate} (h : GraphAt w B b mb gs) : ∀ k o, w.heap[k]? = some o → GS B b mb k o → GT B k o := by
  intro k o ho hs
  rcases hs with rfl | hs | hs
  · obtain ⟨sv, hb, _⟩ := h.ex
    unfold Blk at hb
    rw [hb] at ho
    injection ho with ho
    subst ho
    exact ⟨h.hb, .inl rfl⟩
  · have hm := h.hm
    subst hs
    obtain ⟨hm1, D, ⟨es, c, hh, _⟩, _⟩ := hm
    rw [hh] at ho
    injection ho with ho
    subst ho
    exact ⟨hm1, .inr (.inr rfl)⟩
  · exact ⟨hs.1, .inr (.inl hs.2)⟩
theorem GA.chg {w w' : World} {B b : Nat} {gs : List Gm.Gate} {S : Nat → Obj → Prop} (h : GA w B b gs) (hc : Chg S w w')
    (hS : ∀ k o, B ≤ k → S k o → elemOf o ≠ some 27 ∧ elemOf o ≠ some 89 ∧ elemOf o ≠ none) : GA w' B b gs := by
  obtain ⟨mb, h⟩ := h
  refine ⟨mb, h.chg hc (fun _ hs => (hS _ _ h.hb hs).1 rfl) (fun _ _ hk hs => (hS _ _ hk hs).2.1 rfl) fun m es c hm hs => ?_⟩
  subst hm
  exact (hS _ _ h.hm.1 hs).2.2 rfl
theorem ModelAt.chgS {w w' : World} {B b : Nat} {gs : List Gm.Gate} {S : Nat → Obj → Prop} (h : ModelAt w B b gs) (hc : Chg S w w')
    (hS : ∀ k o, B ≤ k → S k o → elemOf o ≠ some 80 ∧ elemOf o ≠ some 126) : ModelAt w' B b gs :=
  h.chg hc (fun _ hs => (hS _ _ h.hb hs).1 rfl) fun _ _ hk hs => (hS _ _ hk hs).2 rfl
theorem ModelAt.types {w : World} {B b : Nat} {gs : List Gm.Gate} (h : ModelAt w B b gs) : ∀ k o, w.heap[k]? = some o → MS B b k o → MT B k o := by
  intro k o ho hs
  rcases hs with rfl | hs
  · obtain ⟨sv, hb, _⟩ := h.ex
    unfold Blk at hb
    rw [hb] at ho
    injection ho with ho
    subst ho
    exact ⟨h.hb, .inl rfl⟩
  · exact ⟨hs.1, .inr hs.2⟩
theorem GA.keepM {w w' : World} {B b : Nat} {gs : List Gm.Gate} (h : GA w B b gs) (hc : Chg (MT B) w w') : GA w' B b gs :=
  h.chg hc fun k o _ hs => by
    rcases hs.2 with e | e <;> rw [e] <;> exact ⟨by simp, by simp, by simp⟩
theorem ModelAt.keepG {w w' : World} {B b : Nat} {gs : List Gm.Gate} (h : ModelAt w B b gs) (hc : Chg (GT B) w w') : ModelAt w' B b gs :=
  h.chgS hc fun k o _ hs => by
    rcases hs.2 with e | e | e <;> rw [e] <;> exact ⟨by simp, by simp⟩
theorem GA.new {w w' : World} {B b : Nat} {gs : List Gm.Gate} (h : GA w B b gs) (hb : Below w.heap.size w w') : GA w' B b gs := h.elim fun mb h => ⟨mb, h.new hb⟩
theorem GA.drewN {w : World} {B b : Nat} {gs : List Gm.Gate} (h : GA w B b gs) (n : Nat) : GA (w.drewN n) B b gs := h.elim fun mb h => ⟨mb, h.drewN n⟩
theorem GT.below {w w' : World} {B : Nat} (hc : Chg (GT B) w w') (hB : B ≤ w.heap.size) : Below B w w' := hc.below (fun _ _ _ h => h.1) hB
theorem MT.below {w w' : World} {B : Nat} (hc : Chg (MT B) w w') (hB : B ≤ w.heap.size) : Below B w w' := hc.below (fun _ _ _ h => h.1) hB

/-- what a method that makes gates leaves -/
def GP (w : World) (B b : Nat) (r : List Gm.Gate × Nat) (e : Ending) (w' : World) : Prop :=
  e = .returned (.tuple #[.int .i64 (r.2 : Nat), .nilIface]) ∧ GA w' B b r.1 ∧ Chg (GT B) w w'
theorem gp_of {w : World} {B b : Nat} {mb : Option Nat} {gs : List Gm.Gate} {r : List Gm.Gate × Nat} (hg : GraphAt w B b mb gs) {e : Ending} {w' : World} (h : GPost w B b mb r e w') : GP w B b r e w' := by
  obtain ⟨he, mb', h1, h2, _⟩ := h
  exact ⟨he, ⟨mb', h1⟩, h2.mono hg.types⟩
def MP (w : World) (B b : Nat) (r : List Gm.Gate × Nat) (e : Ending) (w' : World) : Prop :=
  e = .returned (.int .i64 (r.2 : Nat)) ∧ ModelAt w' B b r.1 ∧ Chg (MT B) w w'
theorem mp_of {w : World} {B b : Nat} {gs : List Gm.Gate} {r : List Gm.Gate × Nat} (hm : ModelAt w B b gs) {e : Ending} {w' : World} (h : MPost w B b r e w') : MP w B b r e w' := ⟨h.1, h.2.1, h.2.2.mono hm.types⟩
/-- an error of a shape: nothing is made -/
def GB (w : World) (ea : Nat → Addr) (e : Ending) (w' : World) : Prop := e = .returned (.tuple #[.int .i64 0, errV ea 3]) ∧ ∃ n, w' = w.drewN n
theorem Errs.at3 {w : World} {ea : Nat → Addr} {BE : Nat} (h : Errs w ea BE) : w.cell? ⟨0, 0, none⟩ = some (.iface 220 (.pointer (some (ea 3)))) := h.var 3 (by omega) (by omega)
section
variable {w : World} {B b : Nat} {gs : List Gm.Gate} {ea : Nat → Addr} {BE : Nat}
theorem input_ga (h : GA w B b gs) (hn : gs.length < 99999) : Calls Tryd.prog 10 #[.pointer (some ⟨b, 0, none⟩)] w (GP w B b (Gm.inpG gs)) := by
  obtain ⟨mb, h⟩ := h
  exact (input_room h hn).mono fun _ _ x => gp_of h x
theorem and_ga (h : GA w B b gs) (hn : gs.length < 99999) {x y : Nat} (hx : Gm.has gs x) (hy : Gm.has gs y) : Calls Tryd.prog 56 #[.pointer (some ⟨b, 0, none⟩), .int .i64 x, .int .i64 y] w (GP w B b (Gm.andG gs x y)) := by
  obtain ⟨mb, h⟩ := h
  exact (and_any h hn hx hy).mono fun _ _ x => gp_of h x
theorem or_ga (h : GA w B b gs) (hn : gs.length < 99999) {x y : Nat} (hx : Gm.has gs x) (hy : Gm.has gs y) : Calls Tryd.prog 58 #[.pointer (some ⟨b, 0, none⟩), .int .i64 x, .int .i64 y] w (GP w B b (Gm.orG gs x y)) := by
  obtain ⟨mb, h⟩ := h
  exact (or_any h hn hx hy).mono fun _ _ x => gp_of h x
theorem xor_ga (h : GA w B b gs) (hn : gs.length < 99997) {x y : Nat} (hx : Gm.has gs x) (hy : Gm.has gs y) : Calls Tryd.prog 60 #[.pointer (some ⟨b, 0, none⟩), .int .i64 x, .int .i64 y] w (GP w B b (Gm.xorG gs x y)) := by
  obtain ⟨mb, h⟩ := h
  exact (xor_any h hn hx hy).mono fun _ _ x => gp_of h x
theorem if_ga (h : GA w B b gs) (hn : gs.length < 99997) {z x y : Nat} (hz : Gm.has gs z) (hx : Gm.has gs x) (hy : Gm.has gs y) : Calls Tryd.prog 62 #[.pointer (some ⟨b, 0, none⟩), .int .i64 z, .int .i64 x, .int .i64 y] w (GP w B b (Gm.ifG gs z x y)) := by
  obtain ⟨mb, h⟩ := h
  exact (if_any h hn hz hx hy).mono fun _ _ x => gp_of h x
theorem gb_of {e : Ending} {w' : World} (h : GBad w (ea 3) e w') : GB w ea e w' := h
theorem and_nb (hE : Errs w ea BE) (h : GA w B b gs) {x y : Int} (wx : (Lit.int .i64 x).wf = true) (wy : (Lit.int .i64 y).wf = true) (hb : (hasB gs.length x && hasB gs.length y) = false) :
    Calls Tryd.prog 56 #[.pointer (some ⟨b, 0, none⟩), .int .i64 x, .int .i64 y] w (GB w ea) := by
  obtain ⟨mb, h⟩ := h
  exact (and_bad h hE.at3 wx wy hb).mono fun _ _ => gb_of
theorem or_nb (hE : Errs w ea BE) (h : GA w B b gs) {x y : Int} (wx : (Lit.int .i64 x).wf = true) (wy : (Lit.int .i64 y).wf = true) (hb : (hasB gs.length x && hasB gs.length y) = false) :
    Calls Tryd.prog 58 #[.pointer (some ⟨b, 0, none⟩), .int .i64 x, .int .i64 y] w (GB w ea) := by
  obtain ⟨mb, h⟩ := h
  exact (or_bad h hE.at3 wx wy hb).mono fun _ _ => gb_of
theorem xor_nb (hE : Errs w ea BE) (h : GA w B b gs) {x y : Int} (wx : (Lit.int .i64 x).wf = true) (wy : (Lit.int .i64 y).wf = true) (hb : (hasB gs.length x && hasB gs.length y) = false) :
    Calls Tryd.prog 60 #[.pointer (some ⟨b, 0, none⟩), .int .i64 x, .int .i64 y] w (GB w ea) := by
  obtain ⟨mb, h⟩ := h
  exact (xor_bad h hE.at3 wx wy hb).mono fun _ _ => gb_of
theorem if_nb (hE : Errs w ea BE) (h : GA w B b gs) {z x y : Int} (wz : (Lit.int .i64 z).wf = true) (wx : (Lit.int .i64 x).wf = true) (wy : (Lit.int .i64 y).wf = true) (hb : (hasB gs.length z && hasB gs.length x && hasB gs.length y) = false) :
    Calls Tryd.prog 62 #[.pointer (some ⟨b, 0, none⟩), .int .i64 z, .int .i64 x, .int .i64 y] w (GB w ea) := by
  obtain ⟨mb, h⟩ := h
  exact (if_bad h hE.at3 wz wx wy hb).mono fun _ _ => gb_of
theorem minput_mp (h : ModelAt w B b gs) (hn : gs.length < 99999) : Calls Tryd.prog 55 #[.pointer (some ⟨b, 0, none⟩)] w (MP w B b (Gm.inpG gs)) := (minput_any h hn).mono fun _ _ x => mp_of h x
theorem mand_mp (h : ModelAt w B b gs) (hn : gs.length < 99999) {x y : Nat} (hx : Gm.has gs x) (hy : Gm.has gs y) : Calls Tryd.prog 57 #[.pointer (some ⟨b, 0, none⟩), .int .i64 x, .int .i64 y] w (MP w B b (Gm.andG gs x y)) := (mand_any h hn (mhas_small h hx) (mhas_small h hy)).mono fun _ _ x => mp_of h x
theorem mor_mp (h : ModelAt w B b gs) (hn : gs.length < 99999) {x y : Nat} (hx : Gm.has gs x) (hy : Gm.has gs y) : Calls Tryd.prog 59 #[.pointer (some ⟨b, 0, none⟩), .int .i64 x, .int .i64 y] w (MP w B b (Gm.orG gs x y)) := (mor_any h hn hx hy).mono fun _ _ x => mp_of h x
theorem mxor_mp (h : ModelAt w B b gs) (hn : gs.length < 99997) {x y : Nat} (hx : Gm.has gs x) (hy : Gm.has gs y) : Calls Tryd.prog 61 #[.pointer (some ⟨b, 0, none⟩), .int .i64 x, .int .i64 y] w (MP w B b (Gm.xorG gs x y)) := (mxor_any h hn hx hy).mono fun _ _ x => mp_of h x
theorem mif_mp (h : ModelAt w B b gs) (hn : gs.length < 99997) {z x y : Nat} (hz : Gm.has gs z) (hx : Gm.has gs x) (hy : Gm.has gs y) : Calls Tryd.prog 63 #[.pointer (some ⟨b, 0, none⟩), .int .i64 z, .int .i64 x, .int .i64 y] w (MP w B b (Gm.ifG gs z x y)) := (mif_any h hn hz hx hy).mono fun _ _ x => mp_of h x
end
/-- a graph that was just made -/
theorem ga_new (w : World) {B : Nat} (hB : B ≤ w.heap.size) : GA (w.alloc (.cells #[.slice none 0 0, .int .i64 0, .map none] 27)) B w.heap.size [] :=
  ⟨none, ⟨Gm.Wf.nil, by simp, hB, ⟨.slice none 0 0, Blk.new w _ _, World.ownsRow_nil _ _ _ _⟩, fun a b => rfl⟩⟩
theorem ma_new (w : World) {B : Nat} (hB : B ≤ w.heap.size) : ModelAt (w.alloc (.cells #[.slice none 0 0, .int .i64 0] 80)) B w.heap.size [] :=
  ⟨by simp, hB, ⟨.slice none 0 0, Blk.new w _ _, World.ownsRow_nil _ _ _ _⟩⟩
end Go.Proofs.YtmbjhpgemphmmaaDoor
