/-
  WALK: the document's Result, of every operator of gates and all kinds.
  ROWS OF VALUES. WALK: the document's IsApply.
-/
import Derived.Test.YtmbjhpgemphmmaaDoorSd
import Derived.Test.YtmbjhpgemphmmaaDoorWr
namespace Go.Proofs.YtmbjhpgemphmmaaDoor
open Go.RowKit
def ReP (w : World) (r : Int) (e : Ending) (w' : World) : Prop := e = .returned (.int .i64 r) ∧ ∃ n, w' = w.drewN n
theorem res_0_1 {w : World} {ad : Addr} {c : Nat} (h0 : w.cell? ad = some (.int .i64 1)) :
    Calls Tryd.prog 51 #[.string ⟨#[110, 111, 116]⟩, .slice (some ad) 1 c] w (ReP w 1) := by
  go_enter Tryd.func51, Tryd.ntmps51
  go_wp2_with fail
  go_ret
  exact ⟨rfl, 0, rfl⟩
theorem res_0_2 {w : World} {ad : Addr} {c : Nat} (h0 : w.cell? ad = some (.int .i64 2)) :
    Calls Tryd.prog 51 #[.string ⟨#[110, 111, 116]⟩, .slice (some ad) 1 c] w (ReP w 0) := by
  go_enter Tryd.func51, Tryd.ntmps51
  go_wp2_with fail
  go_ret
  exact ⟨rfl, 0, rfl⟩
theorem res_1_1 {w : World} {ad : Addr} {c : Nat} (h0 : w.cell? ad = some (.int .i64 1)) :
    Calls Tryd.prog 51 #[.string ⟨#[110, 101, 103]⟩, .slice (some ad) 1 c] w (ReP w 0) := by
  go_enter Tryd.func51, Tryd.ntmps51
  go_wp2_with fail
  go_ret
  exact ⟨rfl, 0, rfl⟩
theorem res_1_2 {w : World} {ad : Addr} {c : Nat} (h0 : w.cell? ad = some (.int .i64 2)) :
    Calls Tryd.prog 51 #[.string ⟨#[110, 101, 103]⟩, .slice (some ad) 1 c] w (ReP w 2) := by
  go_enter Tryd.func51, Tryd.ntmps51
  go_wp2_with fail
  go_ret
  exact ⟨rfl, 0, rfl⟩
theorem res_2_111 {w : World} {ad : Addr} {c : Nat} (h0 : w.cell? ad = some (.int .i64 1)) (h1 : w.cell? ⟨ad.block, ad.off + 1, none⟩ = some (.int .i64 1)) (h2 : w.cell? ⟨ad.block, ad.off + 2, none⟩ = some (.int .i64 1)) :
    Calls Tryd.prog 51 #[.string ⟨#[105, 102]⟩, .slice (some ad) 3 c] w (ReP w 1) := by
  go_enter Tryd.func51, Tryd.ntmps51
  go_wp2_with fail
  go_quiet (fail)
  all_goals
    go_wp2_with fail
    go_ret
    exact ⟨rfl, _, rfl⟩
theorem res_2_112 {w : World} {ad : Addr} {c : Nat} (h0 : w.cell? ad = some (.int .i64 1)) (h1 : w.cell? ⟨ad.block, ad.off + 1, none⟩ = some (.int .i64 1)) (h2 : w.cell? ⟨ad.block, ad.off + 2, none⟩ = some (.int .i64 2)) :
    Calls Tryd.prog 51 #[.string ⟨#[105, 102]⟩, .slice (some ad) 3 c] w (ReP w 0) := by
  go_enter Tryd.func51, Tryd.ntmps51
  go_wp2_with fail
  go_quiet (fail)
  all_goals
    go_wp2_with fail
    go_ret
    exact ⟨rfl, _, rfl⟩
theorem res_2_121 {w : World} {ad : Addr} {c : Nat} (h0 : w.cell? ad = some (.int .i64 1)) (h1 : w.cell? ⟨ad.block, ad.off + 1, none⟩ = some (.int .i64 2)) (h2 : w.cell? ⟨ad.block, ad.off + 2, none⟩ = some (.int .i64 1)) :
    Calls Tryd.prog 51 #[.string ⟨#[105, 102]⟩, .slice (some ad) 3 c] w (ReP w 0) := by
  go_enter Tryd.func51, Tryd.ntmps51
  go_wp2_with fail
  go_quiet (fail)
  all_goals
    go_wp2_with fail
    go_ret
    exact ⟨rfl, _, rfl⟩
theorem res_2_122 {w : World} {ad : Addr} {c : Nat} (h0 : w.cell? ad = some (.int .i64 1)) (h1 : w.cell? ⟨ad.block, ad.off + 1, none⟩ = some (.int .i64 2)) (h2 : w.cell? ⟨ad.block, ad.off + 2, none⟩ = some (.int .i64 2)) :
    Calls Tryd.prog 51 #[.string ⟨#[105, 102]⟩, .slice (some ad) 3 c] w (ReP w 2) := by
  go_enter Tryd.func51, Tryd.ntmps51
  go_wp2_with fail
  go_quiet (fail)
  all_goals
    go_wp2_with fail
    go_ret
    exact ⟨rfl, _, rfl⟩
theorem res_2_211 {w : World} {ad : Addr} {c : Nat} (h0 : w.cell? ad = some (.int .i64 2)) (_h1 : w.cell? ⟨ad.block, ad.off + 1, none⟩ = some (.int .i64 1)) (h2 : w.cell? ⟨ad.block, ad.off + 2, none⟩ = some (.int .i64 1)) :
    Calls Tryd.prog 51 #[.string ⟨#[105, 102]⟩, .slice (some ad) 3 c] w (ReP w 0) := by
  go_enter Tryd.func51, Tryd.ntmps51
  go_wp2_with fail
  go_quiet (fail)
  all_goals
    go_wp2_with fail
    go_ret
    exact ⟨rfl, _, rfl⟩
theorem res_2_212 {w : World} {ad : Addr} {c : Nat} (h0 : w.cell? ad = some (.int .i64 2)) (_h1 : w.cell? ⟨ad.block, ad.off + 1, none⟩ = some (.int .i64 1)) (h2 : w.cell? ⟨ad.block, ad.off + 2, none⟩ = some (.int .i64 2)) :
    Calls Tryd.prog 51 #[.string ⟨#[105, 102]⟩, .slice (some ad) 3 c] w (ReP w 0) := by
  go_enter Tryd.func51, Tryd.ntmps51
  go_wp2_with fail
  go_quiet (fail)
  all_goals
    go_wp2_with fail
    go_ret
    exact ⟨rfl, _, rfl⟩
theorem res_2_221 {w : World} {ad : Addr} {c : Nat} (h0 : w.cell? ad = some (.int .i64 2)) (_h1 : w.cell? ⟨ad.block, ad.off + 1, none⟩ = some (.int .i64 2)) (h2 : w.cell? ⟨ad.block, ad.off + 2, none⟩ = some (.int .i64 1)) :
    Calls Tryd.prog 51 #[.string ⟨#[105, 102]⟩, .slice (some ad) 3 c] w (ReP w 0) := by
  go_enter Tryd.func51, Tryd.ntmps51
  go_wp2_with fail
  go_quiet (fail)
  all_goals
    go_wp2_with fail
    go_ret
    exact ⟨rfl, _, rfl⟩
theorem res_2_222 {w : World} {ad : Addr} {c : Nat} (h0 : w.cell? ad = some (.int .i64 2)) (_h1 : w.cell? ⟨ad.block, ad.off + 1, none⟩ = some (.int .i64 2)) (h2 : w.cell? ⟨ad.block, ad.off + 2, none⟩ = some (.int .i64 2)) :
    Calls Tryd.prog 51 #[.string ⟨#[105, 102]⟩, .slice (some ad) 3 c] w (ReP w 0) := by
  go_enter Tryd.func51, Tryd.ntmps51
  go_wp2_with fail
  go_quiet (fail)
  all_goals
    go_wp2_with fail
    go_ret
    exact ⟨rfl, _, rfl⟩
theorem res_3_11 {w : World} {ad : Addr} {c : Nat} (h0 : w.cell? ad = some (.int .i64 1)) (h1 : w.cell? ⟨ad.block, ad.off + 1, none⟩ = some (.int .i64 1)) :
    Calls Tryd.prog 51 #[.string ⟨#[97, 110, 100]⟩, .slice (some ad) 2 c] w (ReP w 1) := by
  go_enter Tryd.func51, Tryd.ntmps51
  go_wp2_with fail
  go_ret
  exact ⟨rfl, 0, rfl⟩
theorem res_3_12 {w : World} {ad : Addr} {c : Nat} (h0 : w.cell? ad = some (.int .i64 1)) (h1 : w.cell? ⟨ad.block, ad.off + 1, none⟩ = some (.int .i64 2)) :
    Calls Tryd.prog 51 #[.string ⟨#[97, 110, 100]⟩, .slice (some ad) 2 c] w (ReP w 0) := by
  go_enter Tryd.func51, Tryd.ntmps51
  go_wp2_with fail
  go_ret
  exact ⟨rfl, 0, rfl⟩
theorem res_3_21 {w : World} {ad : Addr} {c : Nat} (h0 : w.cell? ad = some (.int .i64 2)) (h1 : w.cell? ⟨ad.block, ad.off + 1, none⟩ = some (.int .i64 1)) :
    Calls Tryd.prog 51 #[.string ⟨#[97, 110, 100]⟩, .slice (some ad) 2 c] w (ReP w 0) := by
  go_enter Tryd.func51, Tryd.ntmps51
  go_wp2_with fail
  go_ret
  exact ⟨rfl, 0, rfl⟩
theorem res_3_22 {w : World} {ad : Addr} {c : Nat} (h0 : w.cell? ad = some (.int .i64 2)) (h1 : w.cell? ⟨ad.block, ad.off + 1, none⟩ = some (.int .i64 2)) :
    Calls Tryd.prog 51 #[.string ⟨#[97, 110, 100]⟩, .slice (some ad) 2 c] w (ReP w 0) := by
  go_enter Tryd.func51, Tryd.ntmps51
  go_wp2_with fail
  go_ret
  exact ⟨rfl, 0, rfl⟩
theorem res_4_11 {w : World} {ad : Addr} {c : Nat} (h0 : w.cell? ad = some (.int .i64 1)) (h1 : w.cell? ⟨ad.block, ad.off + 1, none⟩ = some (.int .i64 1)) :
    Calls Tryd.prog 51 #[.string ⟨#[111, 114]⟩, .slice (some ad) 2 c] w (ReP w 1) := by
  go_enter Tryd.func51, Tryd.ntmps51
  go_wp2_with fail
  go_ret
  exact ⟨rfl, 0, rfl⟩
theorem res_4_12 {w : World} {ad : Addr} {c : Nat} (h0 : w.cell? ad = some (.int .i64 1)) (h1 : w.cell? ⟨ad.block, ad.off + 1, none⟩ = some (.int .i64 2)) :
    Calls Tryd.prog 51 #[.string ⟨#[111, 114]⟩, .slice (some ad) 2 c] w (ReP w 0) := by
  go_enter Tryd.func51, Tryd.ntmps51
  go_wp2_with fail
  go_ret
  exact ⟨rfl, 0, rfl⟩
theorem res_4_21 {w : World} {ad : Addr} {c : Nat} (h0 : w.cell? ad = some (.int .i64 2)) (h1 : w.cell? ⟨ad.block, ad.off + 1, none⟩ = some (.int .i64 1)) :
    Calls Tryd.prog 51 #[.string ⟨#[111, 114]⟩, .slice (some ad) 2 c] w (ReP w 0) := by
  go_enter Tryd.func51, Tryd.ntmps51
  go_wp2_with fail
  go_ret
  exact ⟨rfl, 0, rfl⟩
theorem res_4_22 {w : World} {ad : Addr} {c : Nat} (h0 : w.cell? ad = some (.int .i64 2)) (h1 : w.cell? ⟨ad.block, ad.off + 1, none⟩ = some (.int .i64 2)) :
    Calls Tryd.prog 51 #[.string ⟨#[111, 114]⟩, .slice (some ad) 2 c] w (ReP w 0) := by
  go_enter Tryd.func51, Tryd.ntmps51
  go_wp2_with fail
  go_ret
  exact ⟨rfl, 0, rfl⟩
theorem res_5_11 {w : World} {ad : Addr} {c : Nat} (h0 : w.cell? ad = some (.int .i64 1)) (h1 : w.cell? ⟨ad.block, ad.off + 1, none⟩ = some (.int .i64 1)) :
    Calls Tryd.prog 51 #[.string ⟨#[120, 111, 114]⟩, .slice (some ad) 2 c] w (ReP w 1) := by
  go_enter Tryd.func51, Tryd.ntmps51
  go_wp2_with fail
  go_ret
  exact ⟨rfl, 0, rfl⟩
theorem res_5_12 {w : World} {ad : Addr} {c : Nat} (h0 : w.cell? ad = some (.int .i64 1)) (h1 : w.cell? ⟨ad.block, ad.off + 1, none⟩ = some (.int .i64 2)) :
    Calls Tryd.prog 51 #[.string ⟨#[120, 111, 114]⟩, .slice (some ad) 2 c] w (ReP w 0) := by
  go_enter Tryd.func51, Tryd.ntmps51
  go_wp2_with fail
  go_ret
  exact ⟨rfl, 0, rfl⟩
theorem res_5_21 {w : World} {ad : Addr} {c : Nat} (h0 : w.cell? ad = some (.int .i64 2)) (h1 : w.cell? ⟨ad.block, ad.off + 1, none⟩ = some (.int .i64 1)) :
    Calls Tryd.prog 51 #[.string ⟨#[120, 111, 114]⟩, .slice (some ad) 2 c] w (ReP w 0) := by
  go_enter Tryd.func51, Tryd.ntmps51
  go_wp2_with fail
  go_ret
  exact ⟨rfl, 0, rfl⟩
theorem res_5_22 {w : World} {ad : Addr} {c : Nat} (h0 : w.cell? ad = some (.int .i64 2)) (h1 : w.cell? ⟨ad.block, ad.off + 1, none⟩ = some (.int .i64 2)) :
    Calls Tryd.prog 51 #[.string ⟨#[120, 111, 114]⟩, .slice (some ad) 2 c] w (ReP w 0) := by
  go_enter Tryd.func51, Tryd.ntmps51
  go_wp2_with fail
  go_ret
  exact ⟨rfl, 0, rfl⟩
theorem res_6_11 {w : World} {ad : Addr} {c : Nat} (h0 : w.cell? ad = some (.int .i64 1)) (h1 : w.cell? ⟨ad.block, ad.off + 1, none⟩ = some (.int .i64 1)) :
    Calls Tryd.prog 51 #[.string ⟨#[61, 62]⟩, .slice (some ad) 2 c] w (ReP w 1) := by
  go_enter Tryd.func51, Tryd.ntmps51
  go_wp2_with fail
  go_ret
  exact ⟨rfl, 0, rfl⟩
theorem res_6_12 {w : World} {ad : Addr} {c : Nat} (h0 : w.cell? ad = some (.int .i64 1)) (h1 : w.cell? ⟨ad.block, ad.off + 1, none⟩ = some (.int .i64 2)) :
    Calls Tryd.prog 51 #[.string ⟨#[61, 62]⟩, .slice (some ad) 2 c] w (ReP w 0) := by
  go_enter Tryd.func51, Tryd.ntmps51
  go_wp2_with fail
  go_ret
  exact ⟨rfl, 0, rfl⟩
theorem res_6_21 {w : World} {ad : Addr} {c : Nat} (h0 : w.cell? ad = some (.int .i64 2)) (h1 : w.cell? ⟨ad.block, ad.off + 1, none⟩ = some (.int .i64 1)) :
    Calls Tryd.prog 51 #[.string ⟨#[61, 62]⟩, .slice (some ad) 2 c] w (ReP w 0) := by
  go_enter Tryd.func51, Tryd.ntmps51
  go_wp2_with fail
  go_ret
  exact ⟨rfl, 0, rfl⟩
theorem res_6_22 {w : World} {ad : Addr} {c : Nat} (h0 : w.cell? ad = some (.int .i64 2)) (h1 : w.cell? ⟨ad.block, ad.off + 1, none⟩ = some (.int .i64 2)) :
    Calls Tryd.prog 51 #[.string ⟨#[61, 62]⟩, .slice (some ad) 2 c] w (ReP w 0) := by
  go_enter Tryd.func51, Tryd.ntmps51
  go_wp2_with fail
  go_ret
  exact ⟨rfl, 0, rfl⟩
theorem res_7_11 {w : World} {ad : Addr} {c : Nat} (h0 : w.cell? ad = some (.int .i64 1)) (h1 : w.cell? ⟨ad.block, ad.off + 1, none⟩ = some (.int .i64 1)) :
    Calls Tryd.prog 51 #[.string ⟨#[61]⟩, .slice (some ad) 2 c] w (ReP w 1) := by
  go_enter Tryd.func51, Tryd.ntmps51
  go_wp2_with fail
  go_ret
  exact ⟨rfl, 0, rfl⟩
theorem res_7_12 {w : World} {ad : Addr} {c : Nat} (h0 : w.cell? ad = some (.int .i64 1)) (h1 : w.cell? ⟨ad.block, ad.off + 1, none⟩ = some (.int .i64 2)) :
    Calls Tryd.prog 51 #[.string ⟨#[61]⟩, .slice (some ad) 2 c] w (ReP w 0) := by
  go_enter Tryd.func51, Tryd.ntmps51
  go_wp2_with fail
  go_ret
  exact ⟨rfl, 0, rfl⟩
theorem res_7_21 {w : World} {ad : Addr} {c : Nat} (h0 : w.cell? ad = some (.int .i64 2)) (h1 : w.cell? ⟨ad.block, ad.off + 1, none⟩ = some (.int .i64 1)) :
    Calls Tryd.prog 51 #[.string ⟨#[61]⟩, .slice (some ad) 2 c] w (ReP w 0) := by
  go_enter Tryd.func51, Tryd.ntmps51
  go_wp2_with fail
  go_ret
  exact ⟨rfl, 0, rfl⟩
theorem res_7_22 {w : World} {ad : Addr} {c : Nat} (h0 : w.cell? ad = some (.int .i64 2)) (h1 : w.cell? ⟨ad.block, ad.off + 1, none⟩ = some (.int .i64 2)) :
    Calls Tryd.prog 51 #[.string ⟨#[61]⟩, .slice (some ad) 2 c] w (ReP w 1) := by
  go_enter Tryd.func51, Tryd.ntmps51
  go_wp2_with fail
  go_ret
  exact ⟨rfl, 0, rfl⟩
theorem res_8_11 {w : World} {ad : Addr} {c : Nat} (h0 : w.cell? ad = some (.int .i64 1)) (h1 : w.cell? ⟨ad.block, ad.off + 1, none⟩ = some (.int .i64 1)) :
    Calls Tryd.prog 51 #[.string ⟨#[60, 62]⟩, .slice (some ad) 2 c] w (ReP w 1) := by
  go_enter Tryd.func51, Tryd.ntmps51
  go_wp2_with fail
  go_ret
  exact ⟨rfl, 0, rfl⟩
theorem res_8_12 {w : World} {ad : Addr} {c : Nat} (h0 : w.cell? ad = some (.int .i64 1)) (h1 : w.cell? ⟨ad.block, ad.off + 1, none⟩ = some (.int .i64 2)) :
    Calls Tryd.prog 51 #[.string ⟨#[60, 62]⟩, .slice (some ad) 2 c] w (ReP w 0) := by
  go_enter Tryd.func51, Tryd.ntmps51
  go_wp2_with fail
  go_ret
  exact ⟨rfl, 0, rfl⟩
theorem res_8_21 {w : World} {ad : Addr} {c : Nat} (h0 : w.cell? ad = some (.int .i64 2)) (h1 : w.cell? ⟨ad.block, ad.off + 1, none⟩ = some (.int .i64 1)) :
    Calls Tryd.prog 51 #[.string ⟨#[60, 62]⟩, .slice (some ad) 2 c] w (ReP w 0) := by
  go_enter Tryd.func51, Tryd.ntmps51
  go_wp2_with fail
  go_ret
  exact ⟨rfl, 0, rfl⟩
theorem res_8_22 {w : World} {ad : Addr} {c : Nat} (h0 : w.cell? ad = some (.int .i64 2)) (h1 : w.cell? ⟨ad.block, ad.off + 1, none⟩ = some (.int .i64 2)) :
    Calls Tryd.prog 51 #[.string ⟨#[60, 62]⟩, .slice (some ad) 2 c] w (ReP w 1) := by
  go_enter Tryd.func51, Tryd.ntmps51
  go_wp2_with fail
  go_ret
  exact ⟨rfl, 0, rfl⟩
theorem res_9_11 {w : World} {ad : Addr} {c : Nat} (h0 : w.cell? ad = some (.int .i64 1)) (h1 : w.cell? ⟨ad.block, ad.off + 1, none⟩ = some (.int .i64 1)) :
    Calls Tryd.prog 51 #[.string ⟨#[60]⟩, .slice (some ad) 2 c] w (ReP w 0) := by
  go_enter Tryd.func51, Tryd.ntmps51
  go_wp2_with fail
  go_ret
  exact ⟨rfl, 0, rfl⟩
theorem res_9_12 {w : World} {ad : Addr} {c : Nat} (h0 : w.cell? ad = some (.int .i64 1)) (h1 : w.cell? ⟨ad.block, ad.off + 1, none⟩ = some (.int .i64 2)) :
    Calls Tryd.prog 51 #[.string ⟨#[60]⟩, .slice (some ad) 2 c] w (ReP w 0) := by
  go_enter Tryd.func51, Tryd.ntmps51
  go_wp2_with fail
  go_ret
  exact ⟨rfl, 0, rfl⟩
theorem res_9_21 {w : World} {ad : Addr} {c : Nat} (h0 : w.cell? ad = some (.int .i64 2)) (h1 : w.cell? ⟨ad.block, ad.off + 1, none⟩ = some (.int .i64 1)) :
    Calls Tryd.prog 51 #[.string ⟨#[60]⟩, .slice (some ad) 2 c] w (ReP w 0) := by
  go_enter Tryd.func51, Tryd.ntmps51
  go_wp2_with fail
  go_ret
  exact ⟨rfl, 0, rfl⟩
theorem res_9_22 {w : World} {ad : Addr} {c : Nat} (h0 : w.cell? ad = some (.int .i64 2)) (h1 : w.cell? ⟨ad.block, ad.off + 1, none⟩ = some (.int .i64 2)) :
    Calls Tryd.prog 51 #[.string ⟨#[60]⟩, .slice (some ad) 2 c] w (ReP w 1) := by
  go_enter Tryd.func51, Tryd.ntmps51
  go_wp2_with fail
  go_ret
  exact ⟨rfl, 0, rfl⟩
theorem res_10_11 {w : World} {ad : Addr} {c : Nat} (h0 : w.cell? ad = some (.int .i64 1)) (h1 : w.cell? ⟨ad.block, ad.off + 1, none⟩ = some (.int .i64 1)) :
    Calls Tryd.prog 51 #[.string ⟨#[60, 61]⟩, .slice (some ad) 2 c] w (ReP w 0) := by
  go_enter Tryd.func51, Tryd.ntmps51
  go_wp2_with fail
  go_ret
  exact ⟨rfl, 0, rfl⟩
theorem res_10_12 {w : World} {ad : Addr} {c : Nat} (h0 : w.cell? ad = some (.int .i64 1)) (h1 : w.cell? ⟨ad.block, ad.off + 1, none⟩ = some (.int .i64 2)) :
    Calls Tryd.prog 51 #[.string ⟨#[60, 61]⟩, .slice (some ad) 2 c] w (ReP w 0) := by
  go_enter Tryd.func51, Tryd.ntmps51
  go_wp2_with fail
  go_ret
  exact ⟨rfl, 0, rfl⟩
theorem res_10_21 {w : World} {ad : Addr} {c : Nat} (h0 : w.cell? ad = some (.int .i64 2)) (h1 : w.cell? ⟨ad.block, ad.off + 1, none⟩ = some (.int .i64 1)) :
    Calls Tryd.prog 51 #[.string ⟨#[60, 61]⟩, .slice (some ad) 2 c] w (ReP w 0) := by
  go_enter Tryd.func51, Tryd.ntmps51
  go_wp2_with fail
  go_ret
  exact ⟨rfl, 0, rfl⟩
theorem res_10_22 {w : World} {ad : Addr} {c : Nat} (h0 : w.cell? ad = some (.int .i64 2)) (h1 : w.cell? ⟨ad.block, ad.off + 1, none⟩ = some (.int .i64 2)) :
    Calls Tryd.prog 51 #[.string ⟨#[60, 61]⟩, .slice (some ad) 2 c] w (ReP w 1) := by
  go_enter Tryd.func51, Tryd.ntmps51
  go_wp2_with fail
  go_ret
  exact ⟨rfl, 0, rfl⟩
theorem res_11_11 {w : World} {ad : Addr} {c : Nat} (h0 : w.cell? ad = some (.int .i64 1)) (h1 : w.cell? ⟨ad.block, ad.off + 1, none⟩ = some (.int .i64 1)) :
    Calls Tryd.prog 51 #[.string ⟨#[62]⟩, .slice (some ad) 2 c] w (ReP w 0) := by
  go_enter Tryd.func51, Tryd.ntmps51
  go_wp2_with fail
  go_ret
  exact ⟨rfl, 0, rfl⟩
theorem res_11_12 {w : World} {ad : Addr} {c : Nat} (h0 : w.cell? ad = some (.int .i64 1)) (h1 : w.cell? ⟨ad.block, ad.off + 1, none⟩ = some (.int .i64 2)) :
    Calls Tryd.prog 51 #[.string ⟨#[62]⟩, .slice (some ad) 2 c] w (ReP w 0) := by
  go_enter Tryd.func51, Tryd.ntmps51
  go_wp2_with fail
  go_ret
  exact ⟨rfl, 0, rfl⟩
theorem res_11_21 {w : World} {ad : Addr} {c : Nat} (h0 : w.cell? ad = some (.int .i64 2)) (h1 : w.cell? ⟨ad.block, ad.off + 1, none⟩ = some (.int .i64 1)) :
    Calls Tryd.prog 51 #[.string ⟨#[62]⟩, .slice (some ad) 2 c] w (ReP w 0) := by
  go_enter Tryd.func51, Tryd.ntmps51
  go_wp2_with fail
  go_ret
  exact ⟨rfl, 0, rfl⟩
theorem res_11_22 {w : World} {ad : Addr} {c : Nat} (h0 : w.cell? ad = some (.int .i64 2)) (h1 : w.cell? ⟨ad.block, ad.off + 1, none⟩ = some (.int .i64 2)) :
    Calls Tryd.prog 51 #[.string ⟨#[62]⟩, .slice (some ad) 2 c] w (ReP w 1) := by
  go_enter Tryd.func51, Tryd.ntmps51
  go_wp2_with fail
  go_ret
  exact ⟨rfl, 0, rfl⟩
theorem res_12_11 {w : World} {ad : Addr} {c : Nat} (h0 : w.cell? ad = some (.int .i64 1)) (h1 : w.cell? ⟨ad.block, ad.off + 1, none⟩ = some (.int .i64 1)) :
    Calls Tryd.prog 51 #[.string ⟨#[62, 61]⟩, .slice (some ad) 2 c] w (ReP w 0) := by
  go_enter Tryd.func51, Tryd.ntmps51
  go_wp2_with fail
  go_ret
  exact ⟨rfl, 0, rfl⟩
theorem res_12_12 {w : World} {ad : Addr} {c : Nat} (h0 : w.cell? ad = some (.int .i64 1)) (h1 : w.cell? ⟨ad.block, ad.off + 1, none⟩ = some (.int .i64 2)) :
    Calls Tryd.prog 51 #[.string ⟨#[62, 61]⟩, .slice (some ad) 2 c] w (ReP w 0) := by
  go_enter Tryd.func51, Tryd.ntmps51
  go_wp2_with fail
  go_ret
  exact ⟨rfl, 0, rfl⟩
theorem res_12_21 {w : World} {ad : Addr} {c : Nat} (h0 : w.cell? ad = some (.int .i64 2)) (h1 : w.cell? ⟨ad.block, ad.off + 1, none⟩ = some (.int .i64 1)) :
    Calls Tryd.prog 51 #[.string ⟨#[62, 61]⟩, .slice (some ad) 2 c] w (ReP w 0) := by
  go_enter Tryd.func51, Tryd.ntmps51
  go_wp2_with fail
  go_ret
  exact ⟨rfl, 0, rfl⟩
theorem res_12_22 {w : World} {ad : Addr} {c : Nat} (h0 : w.cell? ad = some (.int .i64 2)) (h1 : w.cell? ⟨ad.block, ad.off + 1, none⟩ = some (.int .i64 2)) :
    Calls Tryd.prog 51 #[.string ⟨#[62, 61]⟩, .slice (some ad) 2 c] w (ReP w 1) := by
  go_enter Tryd.func51, Tryd.ntmps51
  go_wp2_with fail
  go_ret
  exact ⟨rfl, 0, rfl⟩
theorem res_13_11 {w : World} {ad : Addr} {c : Nat} (h0 : w.cell? ad = some (.int .i64 1)) (h1 : w.cell? ⟨ad.block, ad.off + 1, none⟩ = some (.int .i64 1)) :
    Calls Tryd.prog 51 #[.string ⟨#[43]⟩, .slice (some ad) 2 c] w (ReP w 0) := by
  go_enter Tryd.func51, Tryd.ntmps51
  go_wp2_with fail
  go_ret
  exact ⟨rfl, 0, rfl⟩
theorem res_13_12 {w : World} {ad : Addr} {c : Nat} (h0 : w.cell? ad = some (.int .i64 1)) (h1 : w.cell? ⟨ad.block, ad.off + 1, none⟩ = some (.int .i64 2)) :
    Calls Tryd.prog 51 #[.string ⟨#[43]⟩, .slice (some ad) 2 c] w (ReP w 0) := by
  go_enter Tryd.func51, Tryd.ntmps51
  go_wp2_with fail
  go_ret
  exact ⟨rfl, 0, rfl⟩
theorem res_13_21 {w : World} {ad : Addr} {c : Nat} (h0 : w.cell? ad = some (.int .i64 2)) (h1 : w.cell? ⟨ad.block, ad.off + 1, none⟩ = some (.int .i64 1)) :
    Calls Tryd.prog 51 #[.string ⟨#[43]⟩, .slice (some ad) 2 c] w (ReP w 0) := by
  go_enter Tryd.func51, Tryd.ntmps51
  go_wp2_with fail
  go_ret
  exact ⟨rfl, 0, rfl⟩
theorem res_13_22 {w : World} {ad : Addr} {c : Nat} (h0 : w.cell? ad = some (.int .i64 2)) (h1 : w.cell? ⟨ad.block, ad.off + 1, none⟩ = some (.int .i64 2)) :
    Calls Tryd.prog 51 #[.string ⟨#[43]⟩, .slice (some ad) 2 c] w (ReP w 2) := by
  go_enter Tryd.func51, Tryd.ntmps51
  go_wp2_with fail
  go_ret
  exact ⟨rfl, 0, rfl⟩
theorem res_14_11 {w : World} {ad : Addr} {c : Nat} (h0 : w.cell? ad = some (.int .i64 1)) (h1 : w.cell? ⟨ad.block, ad.off + 1, none⟩ = some (.int .i64 1)) :
    Calls Tryd.prog 51 #[.string ⟨#[45]⟩, .slice (some ad) 2 c] w (ReP w 0) := by
  go_enter Tryd.func51, Tryd.ntmps51
  go_wp2_with fail
  go_ret
  exact ⟨rfl, 0, rfl⟩
theorem res_14_12 {w : World} {ad : Addr} {c : Nat} (h0 : w.cell? ad = some (.int .i64 1)) (h1 : w.cell? ⟨ad.block, ad.off + 1, none⟩ = some (.int .i64 2)) :
    Calls Tryd.prog 51 #[.string ⟨#[45]⟩, .slice (some ad) 2 c] w (ReP w 0) := by
  go_enter Tryd.func51, Tryd.ntmps51
  go_wp2_with fail
  go_ret
  exact ⟨rfl, 0, rfl⟩
theorem res_14_21 {w : World} {ad : Addr} {c : Nat} (h0 : w.cell? ad = some (.int .i64 2)) (h1 : w.cell? ⟨ad.block, ad.off + 1, none⟩ = some (.int .i64 1)) :
    Calls Tryd.prog 51 #[.string ⟨#[45]⟩, .slice (some ad) 2 c] w (ReP w 0) := by
  go_enter Tryd.func51, Tryd.ntmps51
  go_wp2_with fail
  go_ret
  exact ⟨rfl, 0, rfl⟩
theorem res_14_22 {w : World} {ad : Addr} {c : Nat} (h0 : w.cell? ad = some (.int .i64 2)) (h1 : w.cell? ⟨ad.block, ad.off + 1, none⟩ = some (.int .i64 2)) :
    Calls Tryd.prog 51 #[.string ⟨#[45]⟩, .slice (some ad) 2 c] w (ReP w 2) := by
  go_enter Tryd.func51, Tryd.ntmps51
  go_wp2_with fail
  go_ret
  exact ⟨rfl, 0, rfl⟩
theorem res_15_11 {w : World} {ad : Addr} {c : Nat} (h0 : w.cell? ad = some (.int .i64 1)) (h1 : w.cell? ⟨ad.block, ad.off + 1, none⟩ = some (.int .i64 1)) :
    Calls Tryd.prog 51 #[.string ⟨#[42]⟩, .slice (some ad) 2 c] w (ReP w 0) := by
  go_enter Tryd.func51, Tryd.ntmps51
  go_wp2_with fail
  go_ret
  exact ⟨rfl, 0, rfl⟩
theorem res_15_12 {w : World} {ad : Addr} {c : Nat} (h0 : w.cell? ad = some (.int .i64 1)) (h1 : w.cell? ⟨ad.block, ad.off + 1, none⟩ = some (.int .i64 2)) :
    Calls Tryd.prog 51 #[.string ⟨#[42]⟩, .slice (some ad) 2 c] w (ReP w 0) := by
  go_enter Tryd.func51, Tryd.ntmps51
  go_wp2_with fail
  go_ret
  exact ⟨rfl, 0, rfl⟩
theorem res_15_21 {w : World} {ad : Addr} {c : Nat} (h0 : w.cell? ad = some (.int .i64 2)) (h1 : w.cell? ⟨ad.block, ad.off + 1, none⟩ = some (.int .i64 1)) :
    Calls Tryd.prog 51 #[.string ⟨#[42]⟩, .slice (some ad) 2 c] w (ReP w 0) := by
  go_enter Tryd.func51, Tryd.ntmps51
  go_wp2_with fail
  go_ret
  exact ⟨rfl, 0, rfl⟩
theorem res_15_22 {w : World} {ad : Addr} {c : Nat} (h0 : w.cell? ad = some (.int .i64 2)) (h1 : w.cell? ⟨ad.block, ad.off + 1, none⟩ = some (.int .i64 2)) :
    Calls Tryd.prog 51 #[.string ⟨#[42]⟩, .slice (some ad) 2 c] w (ReP w 2) := by
  go_enter Tryd.func51, Tryd.ntmps51
  go_wp2_with fail
  go_ret
  exact ⟨rfl, 0, rfl⟩
theorem res_16_11 {w : World} {ad : Addr} {c : Nat} (h0 : w.cell? ad = some (.int .i64 1)) (h1 : w.cell? ⟨ad.block, ad.off + 1, none⟩ = some (.int .i64 1)) :
    Calls Tryd.prog 51 #[.string ⟨#[47]⟩, .slice (some ad) 2 c] w (ReP w 0) := by
  go_enter Tryd.func51, Tryd.ntmps51
  go_wp2_with fail
  go_ret
  exact ⟨rfl, 0, rfl⟩
theorem res_16_12 {w : World} {ad : Addr} {c : Nat} (h0 : w.cell? ad = some (.int .i64 1)) (h1 : w.cell? ⟨ad.block, ad.off + 1, none⟩ = some (.int .i64 2)) :
    Calls Tryd.prog 51 #[.string ⟨#[47]⟩, .slice (some ad) 2 c] w (ReP w 0) := by
  go_enter Tryd.func51, Tryd.ntmps51
  go_wp2_with fail
  go_ret
  exact ⟨rfl, 0, rfl⟩
theorem res_16_21 {w : World} {ad : Addr} {c : Nat} (h0 : w.cell? ad = some (.int .i64 2)) (h1 : w.cell? ⟨ad.block, ad.off + 1, none⟩ = some (.int .i64 1)) :
    Calls Tryd.prog 51 #[.string ⟨#[47]⟩, .slice (some ad) 2 c] w (ReP w 0) := by
  go_enter Tryd.func51, Tryd.ntmps51
  go_wp2_with fail
  go_ret
  exact ⟨rfl, 0, rfl⟩
theorem res_16_22 {w : World} {ad : Addr} {c : Nat} (h0 : w.cell? ad = some (.int .i64 2)) (h1 : w.cell? ⟨ad.block, ad.off + 1, none⟩ = some (.int .i64 2)) :
    Calls Tryd.prog 51 #[.string ⟨#[47]⟩, .slice (some ad) 2 c] w (ReP w 2) := by
  go_enter Tryd.func51, Tryd.ntmps51
  go_wp2_with fail
  go_ret
  exact ⟨rfl, 0, rfl⟩
theorem res_17_11 {w : World} {ad : Addr} {c : Nat} (h0 : w.cell? ad = some (.int .i64 1)) (h1 : w.cell? ⟨ad.block, ad.off + 1, none⟩ = some (.int .i64 1)) :
    Calls Tryd.prog 51 #[.string ⟨#[109, 111, 100]⟩, .slice (some ad) 2 c] w (ReP w 0) := by
  go_enter Tryd.func51, Tryd.ntmps51
  go_wp2_with fail
  go_ret
  exact ⟨rfl, 0, rfl⟩
theorem res_17_12 {w : World} {ad : Addr} {c : Nat} (h0 : w.cell? ad = some (.int .i64 1)) (h1 : w.cell? ⟨ad.block, ad.off + 1, none⟩ = some (.int .i64 2)) :
    Calls Tryd.prog 51 #[.string ⟨#[109, 111, 100]⟩, .slice (some ad) 2 c] w (ReP w 0) := by
  go_enter Tryd.func51, Tryd.ntmps51
  go_wp2_with fail
  go_ret
  exact ⟨rfl, 0, rfl⟩
theorem res_17_21 {w : World} {ad : Addr} {c : Nat} (h0 : w.cell? ad = some (.int .i64 2)) (h1 : w.cell? ⟨ad.block, ad.off + 1, none⟩ = some (.int .i64 1)) :
    Calls Tryd.prog 51 #[.string ⟨#[109, 111, 100]⟩, .slice (some ad) 2 c] w (ReP w 0) := by
  go_enter Tryd.func51, Tryd.ntmps51
  go_wp2_with fail
  go_ret
  exact ⟨rfl, 0, rfl⟩
theorem res_17_22 {w : World} {ad : Addr} {c : Nat} (h0 : w.cell? ad = some (.int .i64 2)) (h1 : w.cell? ⟨ad.block, ad.off + 1, none⟩ = some (.int .i64 2)) :
    Calls Tryd.prog 51 #[.string ⟨#[109, 111, 100]⟩, .slice (some ad) 2 c] w (ReP w 2) := by
  go_enter Tryd.func51, Tryd.ntmps51
  go_wp2_with fail
  go_ret
  exact ⟨rfl, 0, rfl⟩
/-- a kind's length of a word -/
def lenK (k : Int) : Nat := if k = 1 then 1 else 8
def Kind (k : Int) : Prop := k = 1 ∨ k = 2
theorem kinds1 {l : List Int} (h : l.length = 1) : ∃ a, l = [a] := by match l, h with | [a], _ => exact ⟨a, rfl⟩
theorem kinds2 {l : List Int} (h : l.length = 2) : ∃ a b, l = [a, b] := by match l, h with | [a, b], _ => exact ⟨a, b, rfl⟩
theorem kinds3 {l : List Int} (h : l.length = 3) : ∃ a b c, l = [a, b, c] := by match l, h with | [a, b, c], _ => exact ⟨a, b, c, rfl⟩
/-- Result's answer: none just where the lengths do not fit -/
def ReQ (w : World) (b : Bool) (e : Ending) (w' : World) : Prop := ∃ r : Int, (r == 0) = !b ∧ 0 ≤ r ∧ ReP w r e w'
theorem result_op {w : World} {LB : Nat} {A : Option Addr} {c i : Nat} {ks : List Int} (hi : i < 18) (hl : ks.length = arOf i) (hk : ∀ k ∈ ks, Kind k) (hr : Reads w LB 1 A (arOf i) (litVals ks)) :
    Calls Tryd.prog 51 #[.string (opOf i), .slice A (arOf i) c] w (ReQ w (fitB i (ks.map lenK))) := by
  obtain ⟨ad, rfl, _, hc⟩ := hr.2 (by unfold arOf; split <;> omega)
  have a0 : ad.add 0 = ad := by simp [Addr.add]
  have a1 : ad.add 1 = ⟨ad.block, ad.off + 1, none⟩ := by simp [Addr.add]
  have a2 : ad.add 2 = ⟨ad.block, ad.off + 2, none⟩ := by simp [Addr.add]
  match i, hi, hl, hk with
  | 0, _, hl, hk =>
    obtain ⟨k0, rfl⟩ := kinds1 hl
    have q0 := hc 0 _ rfl
    rw [a0] at q0
    have g0 : Kind k0 := hk _ (by simp)
    rcases g0 with rfl | rfl
    · exact (res_0_1 (c := c) q0).mono fun e w' h => ⟨_, by decide +kernel, by omega, h⟩
    · exact (res_0_2 (c := c) q0).mono fun e w' h => ⟨_, by decide +kernel, by omega, h⟩
  | 1, _, hl, hk =>
    obtain ⟨k0, rfl⟩ := kinds1 hl
    have q0 := hc 0 _ rfl
    rw [a0] at q0
    have g0 : Kind k0 := hk _ (by simp)
    rcases g0 with rfl | rfl
    · exact (res_1_1 (c := c) q0).mono fun e w' h => ⟨_, by decide +kernel, by omega, h⟩
    · exact (res_1_2 (c := c) q0).mono fun e w' h => ⟨_, by decide +kernel, by omega, h⟩
  | 2, _, hl, hk =>
    obtain ⟨k0, k1, k2, rfl⟩ := kinds3 hl
    have q0 := hc 0 _ rfl
    rw [a0] at q0
    have q1 := hc 1 _ rfl
    rw [a1] at q1
    have q2 := hc 2 _ rfl
    rw [a2] at q2
    have g0 : Kind k0 := hk _ (by simp)
    have g1 : Kind k1 := hk _ (by simp)
    have g2 : Kind k2 := hk _ (by simp)
    rcases g0 with rfl | rfl <;> rcases g1 with rfl | rfl <;> rcases g2 with rfl | rfl
    · exact (res_2_111 (c := c) q0 q1 q2).mono fun e w' h => ⟨_, by decide +kernel, by omega, h⟩
    · exact (res_2_112 (c := c) q0 q1 q2).mono fun e w' h => ⟨_, by decide +kernel, by omega, h⟩
    · exact (res_2_121 (c := c) q0 q1 q2).mono fun e w' h => ⟨_, by decide +kernel, by omega, h⟩
    · exact (res_2_122 (c := c) q0 q1 q2).mono fun e w' h => ⟨_, by decide +kernel, by omega, h⟩
    · exact (res_2_211 (c := c) q0 q1 q2).mono fun e w' h => ⟨_, by decide +kernel, by omega, h⟩
    · exact (res_2_212 (c := c) q0 q1 q2).mono fun e w' h => ⟨_, by decide +kernel, by omega, h⟩
    · exact (res_2_221 (c := c) q0 q1 q2).mono fun e w' h => ⟨_, by decide +kernel, by omega, h⟩
    · exact (res_2_222 (c := c) q0 q1 q2).mono fun e w' h => ⟨_, by decide +kernel, by omega, h⟩
  | 3, _, hl, hk =>
    obtain ⟨k0, k1, rfl⟩ := kinds2 hl
    have q0 := hc 0 _ rfl
    rw [a0] at q0
    have q1 := hc 1 _ rfl
    rw [a1] at q1
    have g0 : Kind k0 := hk _ (by simp)
    have g1 : Kind k1 := hk _ (by simp)
    rcases g0 with rfl | rfl <;> rcases g1 with rfl | rfl
    · exact (res_3_11 (c := c) q0 q1).mono fun e w' h => ⟨_, by decide +kernel, by omega, h⟩
    · exact (res_3_12 (c := c) q0 q1).mono fun e w' h => ⟨_, by decide +kernel, by omega, h⟩
    · exact (res_3_21 (c := c) q0 q1).mono fun e w' h => ⟨_, by decide +kernel, by omega, h⟩
    · exact (res_3_22 (c := c) q0 q1).mono fun e w' h => ⟨_, by decide +kernel, by omega, h⟩
  | 4, _, hl, hk =>
    obtain ⟨k0, k1, rfl⟩ := kinds2 hl
    have q0 := hc 0 _ rfl
    rw [a0] at q0
    have q1 := hc 1 _ rfl
    rw [a1] at q1
    have g0 : Kind k0 := hk _ (by simp)
    have g1 : Kind k1 := hk _ (by simp)
    rcases g0 with rfl | rfl <;> rcases g1 with rfl | rfl
    · exact (res_4_11 (c := c) q0 q1).mono fun e w' h => ⟨_, by decide +kernel, by omega, h⟩
    · exact (res_4_12 (c := c) q0 q1).mono fun e w' h => ⟨_, by decide +kernel, by omega, h⟩
    · exact (res_4_21 (c := c) q0 q1).mono fun e w' h => ⟨_, by decide +kernel, by omega, h⟩
    · exact (res_4_22 (c := c) q0 q1).mono fun e w' h => ⟨_, by decide +kernel, by omega, h⟩
  | 5, _, hl, hk =>
    obtain ⟨k0, k1, rfl⟩ := kinds2 hl
    have q0 := hc 0 _ rfl
    rw [a0] at q0
    have q1 := hc 1 _ rfl
    rw [a1] at q1
    have g0 : Kind k0 := hk _ (by simp)
    have g1 : Kind k1 := hk _ (by simp)
    rcases g0 with rfl | rfl <;> rcases g1 with rfl | rfl
    · exact (res_5_11 (c := c) q0 q1).mono fun e w' h => ⟨_, by decide +kernel, by omega, h⟩
    · exact (res_5_12 (c := c) q0 q1).mono fun e w' h => ⟨_, by decide +kernel, by omega, h⟩
    · exact (res_5_21 (c := c) q0 q1).mono fun e w' h => ⟨_, by decide +kernel, by omega, h⟩
    · exact (res_5_22 (c := c) q0 q1).mono fun e w' h => ⟨_, by decide +kernel, by omega, h⟩
  | 6, _, hl, hk =>
    obtain ⟨k0, k1, rfl⟩ := kinds2 hl
    have q0 := hc 0 _ rfl
    rw [a0] at q0
    have q1 := hc 1 _ rfl
    rw [a1] at q1
    have g0 : Kind k0 := hk _ (by simp)
    have g1 : Kind k1 := hk _ (by simp)
    rcases g0 with rfl | rfl <;> rcases g1 with rfl | rfl
    · exact (res_6_11 (c := c) q0 q1).mono fun e w' h => ⟨_, by decide +kernel, by omega, h⟩
    · exact (res_6_12 (c := c) q0 q1).mono fun e w' h => ⟨_, by decide +kernel, by omega, h⟩
    · exact (res_6_21 (c := c) q0 q1).mono fun e w' h => ⟨_, by decide +kernel, by omega, h⟩
    · exact (res_6_22 (c := c) q0 q1).mono fun e w' h => ⟨_, by decide +kernel, by omega, h⟩
  | 7, _, hl, hk =>
    obtain ⟨k0, k1, rfl⟩ := kinds2 hl
    have q0 := hc 0 _ rfl
    rw [a0] at q0
    have q1 := hc 1 _ rfl
    rw [a1] at q1
    have g0 : Kind k0 := hk _ (by simp)
    have g1 : Kind k1 := hk _ (by simp)
    rcases g0 with rfl | rfl <;> rcases g1 with rfl | rfl
    · exact (res_7_11 (c := c) q0 q1).mono fun e w' h => ⟨_, by decide +kernel, by omega, h⟩
    · exact (res_7_12 (c := c) q0 q1).mono fun e w' h => ⟨_, by decide +kernel, by omega, h⟩
    · exact (res_7_21 (c := c) q0 q1).mono fun e w' h => ⟨_, by decide +kernel, by omega, h⟩
    · exact (res_7_22 (c := c) q0 q1).mono fun e w' h => ⟨_, by decide +kernel, by omega, h⟩
  | 8, _, hl, hk =>
    obtain ⟨k0, k1, rfl⟩ := kinds2 hl
    have q0 := hc 0 _ rfl
    rw [a0] at q0
    have q1 := hc 1 _ rfl
    rw [a1] at q1
    have g0 : Kind k0 := hk _ (by simp)
    have g1 : Kind k1 := hk _ (by simp)
    rcases g0 with rfl | rfl <;> rcases g1 with rfl | rfl
    · exact (res_8_11 (c := c) q0 q1).mono fun e w' h => ⟨_, by decide +kernel, by omega, h⟩
    · exact (res_8_12 (c := c) q0 q1).mono fun e w' h => ⟨_, by decide +kernel, by omega, h⟩
    · exact (res_8_21 (c := c) q0 q1).mono fun e w' h => ⟨_, by decide +kernel, by omega, h⟩
    · exact (res_8_22 (c := c) q0 q1).mono fun e w' h => ⟨_, by decide +kernel, by omega, h⟩
  | 9, _, hl, hk =>
    obtain ⟨k0, k1, rfl⟩ := kinds2 hl
    have q0 := hc 0 _ rfl
    rw [a0] at q0
    have q1 := hc 1 _ rfl
    rw [a1] at q1
    have g0 : Kind k0 := hk _ (by simp)
    have g1 : Kind k1 := hk _ (by simp)
    rcases g0 with rfl | rfl <;> rcases g1 with rfl | rfl
    · exact (res_9_11 (c := c) q0 q1).mono fun e w' h => ⟨_, by decide +kernel, by omega, h⟩
    · exact (res_9_12 (c := c) q0 q1).mono fun e w' h => ⟨_, by decide +kernel, by omega, h⟩
    · exact (res_9_21 (c := c) q0 q1).mono fun e w' h => ⟨_, by decide +kernel, by omega, h⟩
    · exact (res_9_22 (c := c) q0 q1).mono fun e w' h => ⟨_, by decide +kernel, by omega, h⟩
  | 10, _, hl, hk =>
    obtain ⟨k0, k1, rfl⟩ := kinds2 hl
    have q0 := hc 0 _ rfl
    rw [a0] at q0
    have q1 := hc 1 _ rfl
    rw [a1] at q1
    have g0 : Kind k0 := hk _ (by simp)
    have g1 : Kind k1 := hk _ (by simp)
    rcases g0 with rfl | rfl <;> rcases g1 with rfl | rfl
    · exact (res_10_11 (c := c) q0 q1).mono fun e w' h => ⟨_, by decide +kernel, by omega, h⟩
    · exact (res_10_12 (c := c) q0 q1).mono fun e w' h => ⟨_, by decide +kernel, by omega, h⟩
    · exact (res_10_21 (c := c) q0 q1).mono fun e w' h => ⟨_, by decide +kernel, by omega, h⟩
    · exact (res_10_22 (c := c) q0 q1).mono fun e w' h => ⟨_, by decide +kernel, by omega, h⟩
  | 11, _, hl, hk =>
    obtain ⟨k0, k1, rfl⟩ := kinds2 hl
    have q0 := hc 0 _ rfl
    rw [a0] at q0
    have q1 := hc 1 _ rfl
    rw [a1] at q1
    have g0 : Kind k0 := hk _ (by simp)
    have g1 : Kind k1 := hk _ (by simp)
    rcases g0 with rfl | rfl <;> rcases g1 with rfl | rfl
    · exact (res_11_11 (c := c) q0 q1).mono fun e w' h => ⟨_, by decide +kernel, by omega, h⟩
    · exact (res_11_12 (c := c) q0 q1).mono fun e w' h => ⟨_, by decide +kernel, by omega, h⟩
    · exact (res_11_21 (c := c) q0 q1).mono fun e w' h => ⟨_, by decide +kernel, by omega, h⟩
    · exact (res_11_22 (c := c) q0 q1).mono fun e w' h => ⟨_, by decide +kernel, by omega, h⟩
  | 12, _, hl, hk =>
    obtain ⟨k0, k1, rfl⟩ := kinds2 hl
    have q0 := hc 0 _ rfl
    rw [a0] at q0
    have q1 := hc 1 _ rfl
    rw [a1] at q1
    have g0 : Kind k0 := hk _ (by simp)
    have g1 : Kind k1 := hk _ (by simp)
    rcases g0 with rfl | rfl <;> rcases g1 with rfl | rfl
    · exact (res_12_11 (c := c) q0 q1).mono fun e w' h => ⟨_, by decide +kernel, by omega, h⟩
    · exact (res_12_12 (c := c) q0 q1).mono fun e w' h => ⟨_, by decide +kernel, by omega, h⟩
    · exact (res_12_21 (c := c) q0 q1).mono fun e w' h => ⟨_, by decide +kernel, by omega, h⟩
    · exact (res_12_22 (c := c) q0 q1).mono fun e w' h => ⟨_, by decide +kernel, by omega, h⟩
  | 13, _, hl, hk =>
    obtain ⟨k0, k1, rfl⟩ := kinds2 hl
    have q0 := hc 0 _ rfl
    rw [a0] at q0
    have q1 := hc 1 _ rfl
    rw [a1] at q1
    have g0 : Kind k0 := hk _ (by simp)
    have g1 : Kind k1 := hk _ (by simp)
    rcases g0 with rfl | rfl <;> rcases g1 with rfl | rfl
    · exact (res_13_11 (c := c) q0 q1).mono fun e w' h => ⟨_, by decide +kernel, by omega, h⟩
    · exact (res_13_12 (c := c) q0 q1).mono fun e w' h => ⟨_, by decide +kernel, by omega, h⟩
    · exact (res_13_21 (c := c) q0 q1).mono fun e w' h => ⟨_, by decide +kernel, by omega, h⟩
    · exact (res_13_22 (c := c) q0 q1).mono fun e w' h => ⟨_, by decide +kernel, by omega, h⟩
  | 14, _, hl, hk =>
    obtain ⟨k0, k1, rfl⟩ := kinds2 hl
    have q0 := hc 0 _ rfl
    rw [a0] at q0
    have q1 := hc 1 _ rfl
    rw [a1] at q1
    have g0 : Kind k0 := hk _ (by simp)
    have g1 : Kind k1 := hk _ (by simp)
    rcases g0 with rfl | rfl <;> rcases g1 with rfl | rfl
    · exact (res_14_11 (c := c) q0 q1).mono fun e w' h => ⟨_, by decide +kernel, by omega, h⟩
    · exact (res_14_12 (c := c) q0 q1).mono fun e w' h => ⟨_, by decide +kernel, by omega, h⟩
    · exact (res_14_21 (c := c) q0 q1).mono fun e w' h => ⟨_, by decide +kernel, by omega, h⟩
    · exact (res_14_22 (c := c) q0 q1).mono fun e w' h => ⟨_, by decide +kernel, by omega, h⟩
  | 15, _, hl, hk =>
    obtain ⟨k0, k1, rfl⟩ := kinds2 hl
    have q0 := hc 0 _ rfl
    rw [a0] at q0
    have q1 := hc 1 _ rfl
    rw [a1] at q1
    have g0 : Kind k0 := hk _ (by simp)
    have g1 : Kind k1 := hk _ (by simp)
    rcases g0 with rfl | rfl <;> rcases g1 with rfl | rfl
    · exact (res_15_11 (c := c) q0 q1).mono fun e w' h => ⟨_, by decide +kernel, by omega, h⟩
    · exact (res_15_12 (c := c) q0 q1).mono fun e w' h => ⟨_, by decide +kernel, by omega, h⟩
    · exact (res_15_21 (c := c) q0 q1).mono fun e w' h => ⟨_, by decide +kernel, by omega, h⟩
    · exact (res_15_22 (c := c) q0 q1).mono fun e w' h => ⟨_, by decide +kernel, by omega, h⟩
  | 16, _, hl, hk =>
    obtain ⟨k0, k1, rfl⟩ := kinds2 hl
    have q0 := hc 0 _ rfl
    rw [a0] at q0
    have q1 := hc 1 _ rfl
    rw [a1] at q1
    have g0 : Kind k0 := hk _ (by simp)
    have g1 : Kind k1 := hk _ (by simp)
    rcases g0 with rfl | rfl <;> rcases g1 with rfl | rfl
    · exact (res_16_11 (c := c) q0 q1).mono fun e w' h => ⟨_, by decide +kernel, by omega, h⟩
    · exact (res_16_12 (c := c) q0 q1).mono fun e w' h => ⟨_, by decide +kernel, by omega, h⟩
    · exact (res_16_21 (c := c) q0 q1).mono fun e w' h => ⟨_, by decide +kernel, by omega, h⟩
    · exact (res_16_22 (c := c) q0 q1).mono fun e w' h => ⟨_, by decide +kernel, by omega, h⟩
  | 17, _, hl, hk =>
    obtain ⟨k0, k1, rfl⟩ := kinds2 hl
    have q0 := hc 0 _ rfl
    rw [a0] at q0
    have q1 := hc 1 _ rfl
    rw [a1] at q1
    have g0 : Kind k0 := hk _ (by simp)
    have g1 : Kind k1 := hk _ (by simp)
    rcases g0 with rfl | rfl <;> rcases g1 with rfl | rfl
    · exact (res_17_11 (c := c) q0 q1).mono fun e w' h => ⟨_, by decide +kernel, by omega, h⟩
    · exact (res_17_12 (c := c) q0 q1).mono fun e w' h => ⟨_, by decide +kernel, by omega, h⟩
    · exact (res_17_21 (c := c) q0 q1).mono fun e w' h => ⟨_, by decide +kernel, by omega, h⟩
    · exact (res_17_22 (c := c) q0 q1).mono fun e w' h => ⟨_, by decide +kernel, by omega, h⟩
  | n + 18, hi, _, _ => exact absurd hi (by omega)
end Go.Proofs.YtmbjhpgemphmmaaDoor
namespace Go.Proofs.YtmbjhpgemphmmaaDoor
open Go.RowKit
theorem val_field (a : Addr) (i : Nat) : a.add (i + 1) = ⟨(a.add i).block, (a.add i).off + 1, none⟩ := by
  unfold Addr.add
  by_cases hi : i = 0
  · subst hi; simp
  · rw [if_neg (by omega), if_neg hi]; simp; omega
def pvVals : List (Int × Int) → List Value
  | [] => []
  | m :: r => .int .i64 m.1 :: .int .i64 m.2 :: pvVals r
theorem pvVals_length (l : List (Int × Int)) : (pvVals l).length = l.length * 2 := by
  induction l with
  | nil => rfl
  | cons g r ih => simp only [pvVals, List.length_cons, ih]; omega
theorem pvVals_at (l : List (Int × Int)) (i : Nat) (m : Int × Int) (h : l[i]? = some m) :
    (pvVals l)[i * 2]? = some (.int .i64 m.1) ∧ (pvVals l)[i * 2 + 1]? = some (.int .i64 m.2) := by
  induction l generalizing i with
  | nil => simp at h
  | cons x l ih =>
    cases i with
    | zero =>
      simp only [List.getElem?_cons_zero, Option.some.injEq] at h
      subst h
      simp [pvVals]
    | succ i =>
      have := ih i (by simpa using h)
      have e : (i + 1) * 2 = i * 2 + 1 + 1 := by omega
      simpa only [e, pvVals, List.getElem?_cons_succ] using this
theorem infoIntK_ : (Tryd.prog.info? 3).map (fun i => (i.zero, i.size, i.bytes)) = some (some (.int .i64 0), 1, 8) := by kernel_rfl
/-- IsApply's answer: is it an error's number? -/
def IaP (w : World) (b : Bool) (e : Ending) (w' : World) : Prop := ∃ r : Int, e = .returned (.int .i64 r) ∧ (decide (0 < r)) = b ∧ Below w.heap.size w w'
set_option maxRecDepth 100000 in
set_option maxHeartbeats 4000000 in
theorem isa_bad1 {w : World} {A : Option Addr} {m c : Nat} {s : ByteArray} {nA : Int} {bA : Bool} (hn : arN s = nA) (hb : arB s = bA) (h1 : bA = false) :
    Calls Tryd.prog 20 #[.string s, .slice A m c] w (IaP w true) := by
  have CA := Lib.hid (rarity_any w s)
  have HNB := Lib.hid (And.intro hn hb)
  clear hn hb
  go_enter Tryd.func20, Tryd.ntmps20
  go_wp2_with fail
  refine CA.out.mono ?_
  rintro e w' ⟨rfl, rfl⟩
  rw [HNB.out.1, HNB.out.2]
  subst h1
  go_wp2_with fail
  go_ret
  exact ⟨3, rfl, rfl, Below.refl _ _⟩
set_option maxRecDepth 100000 in
set_option maxHeartbeats 4000000 in
theorem isa_bad2 {w : World} {A : Option Addr} {m c : Nat} {s : ByteArray} {nA : Int} {bA : Bool} (hn : arN s = nA) (hb : arB s = bA) (h1 : bA = true) (h2 : decide (nA < 1) = true) :
    Calls Tryd.prog 20 #[.string s, .slice A m c] w (IaP w true) := by
  have CA := Lib.hid (rarity_any w s)
  have HNB := Lib.hid (And.intro hn hb)
  clear hn hb
  go_enter Tryd.func20, Tryd.ntmps20
  go_wp2_with fail
  refine CA.out.mono ?_
  rintro e w' ⟨rfl, rfl⟩
  rw [HNB.out.1, HNB.out.2]
  subst h1
  go_wp2_with fail
  go_ret
  exact ⟨3, rfl, rfl, Below.refl _ _⟩
set_option maxRecDepth 100000 in
set_option maxHeartbeats 4000000 in
theorem isa_bad3 {w : World} {A : Option Addr} {m c : Nat} {s : ByteArray} {nA : Int} {bA : Bool} (hn : arN s = nA) (hb : arB s = bA) (h1 : bA = true) (h2 : decide (nA < 1) = false) (h3 : ¬ nA = (m : Int)) :
    Calls Tryd.prog 20 #[.string s, .slice A m c] w (IaP w true) := by
  have CA := Lib.hid (rarity_any w s)
  have HNB := Lib.hid (And.intro hn hb)
  clear hn hb
  go_enter Tryd.func20, Tryd.ntmps20
  go_wp2_with fail
  refine CA.out.mono ?_
  rintro e w' ⟨rfl, rfl⟩
  rw [HNB.out.1, HNB.out.2]
  subst h1
  go_wp2_with fail
  go_ret
  exact ⟨3, rfl, rfl, Below.refl _ _⟩
set_option maxRecDepth 100000 in
set_option maxHeartbeats 4000000 in
theorem isa_bad4 {w : World} {A : Option Addr} {m c : Nat} {s : ByteArray} {nA : Int} {bA : Bool} (hn : arN s = nA) (hb : arB s = bA) (h1 : bA = true) (h2 : decide (nA < 1) = false) (h3 : nA = (m : Int)) (e1 : (s.toList == [112, 114, 101]) = true) :
    Calls Tryd.prog 20 #[.string s, .slice A m c] w (IaP w true) := by
  have CA := Lib.hid (rarity_any w s)
  have HNB := Lib.hid (And.intro hn hb)
  clear hn hb
  go_enter Tryd.func20, Tryd.ntmps20
  go_wp2_with fail
  refine CA.out.mono ?_
  rintro e w' ⟨rfl, rfl⟩
  rw [HNB.out.1, HNB.out.2]
  subst h1
  subst h3
  go_wp2_with fail
  go_ret
  exact ⟨3, rfl, rfl, Below.refl _ _⟩
set_option maxRecDepth 100000 in
set_option maxHeartbeats 4000000 in
theorem isa_bad5 {w : World} {A : Option Addr} {m c : Nat} {s : ByteArray} {nA : Int} {bA : Bool} (hn : arN s = nA) (hb : arB s = bA) (h1 : bA = true) (h2 : decide (nA < 1) = false) (h3 : nA = (m : Int)) (e1 : (s.toList == [112, 114, 101]) = false) (e2 : (s.toList == [45, 62]) = true) :
    Calls Tryd.prog 20 #[.string s, .slice A m c] w (IaP w true) := by
  have CA := Lib.hid (rarity_any w s)
  have HNB := Lib.hid (And.intro hn hb)
  clear hn hb
  go_enter Tryd.func20, Tryd.ntmps20
  go_wp2_with fail
  refine CA.out.mono ?_
  rintro e w' ⟨rfl, rfl⟩
  rw [HNB.out.1, HNB.out.2]
  subst h1
  subst h3
  go_wp2_with fail
  go_ret
  exact ⟨3, rfl, rfl, Below.refl _ _⟩
set_option maxRecDepth 100000 in
set_option maxHeartbeats 4000000 in
theorem isa_bad6 {w : World} {A : Option Addr} {m c : Nat} {s : ByteArray} {nA : Int} {bA : Bool} (hn : arN s = nA) (hb : arB s = bA) (h1 : bA = true) (h2 : decide (nA < 1) = false) (h3 : nA = (m : Int)) (e1 : (s.toList == [112, 114, 101]) = false) (e2 : (s.toList == [45, 62]) = false) (e3 : (s.toList == [102, 98, 121]) = true) :
    Calls Tryd.prog 20 #[.string s, .slice A m c] w (IaP w true) := by
  have CA := Lib.hid (rarity_any w s)
  have HNB := Lib.hid (And.intro hn hb)
  clear hn hb
  go_enter Tryd.func20, Tryd.ntmps20
  go_wp2_with fail
  refine CA.out.mono ?_
  rintro e w' ⟨rfl, rfl⟩
  rw [HNB.out.1, HNB.out.2]
  subst h1
  subst h3
  go_wp2_with fail
  go_ret
  exact ⟨3, rfl, rfl, Below.refl _ _⟩
theorem isa_bad {w : World} {A : Option Addr} {m c : Nat} {s : ByteArray} (h : badOp s m = true) :
    Calls Tryd.prog 20 #[.string s, .slice A m c] w (IaP w true) := by
  unfold badOp at h
  cases h1 : arB s with
  | false => exact isa_bad1 rfl rfl h1
  | true =>
  cases h2 : decide (arN s < 1) with
  | true => exact isa_bad2 rfl rfl h1 h2
  | false =>
  cases h3 : (arN s == (m : Int)) with
  | false => exact isa_bad3 rfl rfl h1 h2 (by simpa using h3)
  | true =>
  cases e1 : (s.toList == [112, 114, 101]) with
  | true => exact isa_bad4 rfl rfl h1 h2 (by simpa using h3) e1
  | false =>
  cases e2 : (s.toList == [45, 62]) with
  | true => exact isa_bad5 rfl rfl h1 h2 (by simpa using h3) e1 e2
  | false =>
  cases e3 : (s.toList == [102, 98, 121]) with
  | true => exact isa_bad6 rfl rfl h1 h2 (by simpa using h3) e1 e2 e3
  | false => rw [h1, h2, h3, e1, e2, e3] at h; cases h
def IaR (W : World) (l : List (Int × Int)) (ov iv : Value) (wr : World) : Prop :=
  ∃ k : Nat, k ≤ l.length ∧ iv = .int .i64 (k : Nat) ∧ (∃ A c, ov = .slice A k c) ∧ Below W.heap.size W wr ∧ wr.ownsRow W.heap.size 3 1 ov k (litVals ((l.take k).map Prod.fst))
theorem right_kind {p : Int × Int} (h : right p.1 p.2 = true) : Kind p.1 := by
  unfold right at h
  simp only [Bool.or_eq_true, Bool.and_eq_true, beq_iff_eq, decide_eq_true_eq] at h
  rcases h with h | h
  · exact .inl h.1
  · exact .inr h.1
/-- the facts on an operator that a walk asks for -/
theorem op_facts {i : Nat} (hi : i < 18) : arN (opOf i) = (arOf i : Nat) ∧ arB (opOf i) = true ∧ ((opOf i).toList == [112, 114, 101]) = false ∧ ((opOf i).toList == [45, 62]) = false ∧ ((opOf i).toList == [102, 98, 121]) = false := by
  have h := op_known i hi
  unfold badOp at h
  simp only [Bool.or_eq_false_iff, Bool.not_eq_false', beq_iff_eq] at h
  exact ⟨h.1.1.1.2, h.1.1.1.1.1, h.1.1.2, h.1.2, h.2⟩
theorem arOf_range (i : Nat) : 1 ≤ arOf i ∧ arOf i ≤ 3 := by unfold arOf; split <;> omega
attribute [local irreducible] wpSeq wpStill
set_option maxRecDepth 100000 in
set_option maxHeartbeats 4000000 in
theorem isa_op {w : World} {LB : Nat} {A : Option Addr} {c i m : Nat} {l : List (Int × Int)} (hi : i < 18) (hm : m = arOf i) (hl : l.length = m) (hk : ∀ p ∈ l, right p.1 p.2 = true) (hr : Reads w LB 2 A m (pvVals l)) (hLB : LB ≤ w.heap.size) :
    Calls Tryd.prog 20 #[.string (opOf i), .slice A m c] w (IaP w (!fitB i (l.map fun p => lenK p.1))) := by
  obtain ⟨i0, hi0, hz0, hz1, hz2⟩ := info_parts infoIntK_
  have HIN := Lib.hid (show _ ∧ _ ∧ _ ∧ _ from ⟨hi0, hz0, hz1, hz2⟩)
  have CA := Lib.hid (rarity_any w (opOf i))
  obtain ⟨o1, o2, e1, e2, e3⟩ := op_facts hi
  rw [← hm] at o1
  have hm1 : 1 ≤ m ∧ m ≤ 3 := by rw [hm]; exact arOf_range i
  obtain ⟨hm1, hm3⟩ := hm1
  have hlt : decide ((m : Int) < 1) = false := decide_eq_false (by omega)
  have HNB := Lib.hid (And.intro o1 o2)
  have HR := Lib.hid hr
  have HK := Lib.hid hk
  have HLB := Lib.hid hLB
  have HM := Lib.hid hm
  have HI := Lib.hid hi
  obtain ⟨s, hs⟩ : ∃ s, s = opOf i := ⟨_, rfl⟩
  rw [← hs] at e1 e2 e3
  have HS := Lib.hid hs
  clear hi0 hz0 hz1 hz2 o1 o2 hr hk hLB hm hi
  rw [← hs]
  clear hs
  go_enter Tryd.func20, Tryd.ntmps20
  go_wp2_with fail
  have CA2 := CA.out
  rw [← HS.out] at CA2
  refine CA2.mono ?_
  rintro e w' ⟨rfl, rfl⟩
  rw [HS.out, HNB.out.1, HNB.out.2, ← HS.out]
  clear CA2
  go_wp2_with fail
  go_loopw [7, 8] (fun ov iv wr => IaR w l ov iv wr) (fun _ iv _ => l.length - (intOf iv).toNat)
  case atStart => exact ⟨0, Nat.zero_le _, rfl, ⟨none, 0, rfl⟩, Below.refl _ _, World.ownsRow_nil _ _ _ _⟩
  case round =>
    obtain ⟨k, hkl, rfl, ⟨Ao, co, rfl⟩, hb, hown⟩ := hrel
    rw [hl] at hkl
    have HB := Lib.hid hb
    have HO := Lib.hid hown
    clear hb hown
    by_cases hk2 : k < m
    · obtain ⟨⟨kk, nn⟩, hx⟩ : ∃ p, l[k]? = some p := ⟨_, List.getElem?_eq_getElem (by omega)⟩
      have hrt : right kk nn = true := HK.out _ (List.mem_of_getElem? hx)
      obtain ⟨ad, hA, hadb, hc⟩ := HR.out.2 (by omega)
      subst hA
      obtain ⟨q0, q1⟩ := pvVals_at l k _ hx
      have cc := hc _ _ q0
      have cd := hc _ _ q1
      rw [val_field] at cd
      obtain ⟨W2, hW2⟩ : ∃ W2, W2 = wr.drew := ⟨_, rfl⟩
      have HB2 := Lib.hid (show Below w.heap.size w W2 by rw [hW2]; exact below_drewN HB.out 1)
      have HSS := Lib.hid (show ∀ w' : World, Below w.heap.size w w' → w'.cell? (ad.add (k * 2)) = some (.int .i64 kk) ∧ w'.cell? ⟨(ad.add (k * 2)).block, (ad.add (k * 2)).off + 1, none⟩ = some (.int .i64 nn) from fun w' hb =>
        ⟨(hb.cell (by rw [block_of_add]; exact Nat.lt_of_lt_of_le hadb HLB.out)).trans cc, (hb.cell (by show (ad.add (k * 2)).block < _; rw [block_of_add]; exact Nat.lt_of_lt_of_le hadb HLB.out)).trans cd⟩)
      have HX := Lib.hid hx
      have HRT := Lib.hid hrt
      have HO2 := Lib.hid (show W2.ownsRow w.heap.size 3 1 (.slice Ao k co) k (litVals ((l.take k).map Prod.fst)) by rw [hW2]; exact HO.out)
      have HW2 := Lib.hid hW2
      have HADB := Lib.hid hadb
      clear hx hrt hc cc cd q0 q1 hW2 hadb
      go_wp2_with fail
      refine wp_region_seq (S := fun w' => w'.cell? (ad.add (k * 2)) = some (.int .i64 kk) ∧ w'.cell? ⟨(ad.add (k * 2)).block, (ad.add (k * 2)).off + 1, none⟩ = some (.int .i64 nn)) [(0, false), (1, false), (2, false), (3, false), (4, false), (5, false), (6, false), (7, false), (8, false), (9, true), (10, false)] (by kernel_rfl) (by kernel_rfl) (by kernel_rfl) (by rw [← HW2.out]; exact HSS.out _ HB2.out) ?_
      rw [← HW2.out]
      iterate 9 (refine seq_take _ _ rfl (by kernel_rfl) (fun wv hv => by obtain ⟨hv1, hv2⟩ := hv; go_simp; try with_reducible rfl) ?_; simp only [Act.put, List.getElem_toArray, List.getElem_cons_zero, List.getElem_cons_succ, List.setIfInBounds_toArray, List.set_cons_zero, List.set_cons_succ])
      refine seq_act _ rfl (fun K hK => ?_)
      go_simp
      refine (right_any _ _ _).mono ?_
      rintro e w3 ⟨rfl, hb3⟩
      rw [HRT.out]
      have HB3 := Lib.hid (HB2.out.trans (hb3.mono HB2.out.size))
      have HO3 := Lib.hid (own_chg HO2.out (S := fun _ _ => False) (.of_new hb3) (by simp))
      clear hb3
      go_simp
      refine hK _ _ (HSS.out _ HB3.out) ?_
      clear hK K
      iterate 1 (refine seq_take _ _ rfl (by kernel_rfl) (fun wv hv => by go_simp; try with_reducible rfl) ?_; simp only [Act.put, List.getElem_toArray, List.getElem_cons_zero, List.getElem_cons_succ, List.setIfInBounds_toArray, List.set_cons_zero, List.set_cons_succ])
      refine seq_nil ?_
      obtain ⟨cc, cd⟩ := HSS.out _ HB3.out
      have hw3 := HB3.out.size
      go_wp2_with (at_builtin; refine wpList_append_sl _ rfl (.tmp 57) (.tmp 63) _ rfl w.heap.size 3 i0 _ 1 8 Tryd.underlying37 HIN.out.1 HIN.out.2.1 HIN.out.2.2.1 HIN.out.2.2.2 rfl (by omega) _ k _ rfl (HO3.out.alloc _) (w3.heap.size + 1) (some ⟨w3.heap.size, 0, none⟩) 1 1 [.int .i64 kk] rfl (reads_new rfl (by omega) rfl) (fun u hu => by rw [List.mem_singleton.1 hu]; rfl) (le_maxLen (by omega)) (le_bytes (by omega) (by omega)) (by simp; omega) ?_; intro A5 c5 w5 hown5 hg5)
      have HB5 := Lib.hid (own_grown_below HB3.out HO3.out (Nat.le_refl _) (show (w3.alloc (.cells #[.int .i64 kk] 3)).grownBy w5 (Value.slice Ao k co).ownBlock from hg5))
      have HO5 := Lib.hid (show w5.ownsRow w.heap.size 3 1 (.slice A5 (k + 1) c5) (k + 1) (litVals ((l.take (k + 1)).map Prod.fst)) by
        rw [Gm.take_one HX.out, List.map_append]
        unfold litVals at hown5 ⊢
        rw [List.map_append]; exact hown5)
      clear hown5 hg5 cc cd
      go_wp2_with fail
      go_roundw
      case rel => exact ⟨k + 1, by omega, by go_num, ⟨_, _, rfl⟩, HB5.out, HO5.out⟩
      case measure => simp [intOf]; omega
    · obtain rfl : k = m := by omega
      have hown := HO.out
      rw [List.take_of_length_le (by omega)] at hown
      have CR := Lib.hid (result_op (w := wr) (c := co) (i := i) HI.out (by rw [List.length_map, hl, HM.out]) (by
        intro x hx
        obtain ⟨p, hp, rfl⟩ := List.mem_map.1 hx
        exact right_kind (HK.out p hp)) (show Reads wr wr.heap.size 1 Ao (arOf i) (litVals (l.map Prod.fst)) by rw [← HM.out]; exact Reads.of_own hown))
      clear hown
      go_wp2_with fail
      have CR2 := CR.out
      rw [← HS.out, ← HM.out, List.map_map] at CR2
      refine CR2.mono ?_
      rintro e w4 ⟨r, hr1, hr2, rfl, n4, rfl⟩
      have HEND := Lib.hid (show Below w.heap.size w (wr.drewN n4) from below_drewN HB.out n4)
      have HF := Lib.hid (show (r == 0) = !fitB i (l.map fun p => lenK p.1) from hr1)
      clear hr1 CR2
      by_cases hr0 : r = 0
      · subst hr0
        go_wp2_with fail
        go_ret
        refine ⟨5, rfl, ?_, HEND.out⟩
        have := HF.out
        simpa using this
      · have hr9 : (r == 0) = false := by simpa using hr0
        go_wp2_with fail
        go_ret
        refine ⟨0, rfl, ?_, HEND.out⟩
        have := HF.out
        rw [hr9] at this
        simpa using this
end Go.Proofs.YtmbjhpgemphmmaaDoor
