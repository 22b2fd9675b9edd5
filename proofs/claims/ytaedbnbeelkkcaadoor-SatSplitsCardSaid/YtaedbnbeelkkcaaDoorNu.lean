/-
  WALK of luby.
  WALK of (*solver).no.
-/
import Derived.Test.YtaedbnbeelkkcaaDoorNt
namespace Go.Proofs.YtaedbnbeelkkcaaDoor.slv
open Go.RowKit
theorem two_pos (k : Nat) : 1 ≤ 2 ^ k := Nat.one_le_two_pow
theorem lubyK_spec {i : Nat} : ∀ {f k : Nat}, i + 2 ≤ 2 ^ (k + f) → (k = 1 ∨ 2 ^ (k - 1) < i + 2) → 1 ≤ k → k ≤ lubyK i f k ∧ i + 2 ≤ 2 ^ (lubyK i f k) ∧ (lubyK i f k = 1 ∨ 2 ^ (lubyK i f k - 1) < i + 2)
  | 0, k, h, h2, h3 => ⟨Nat.le_refl _, h, h2⟩
  | f + 1, k, h, h2, h3 => by
    unfold lubyK
    have := two_pos k
    by_cases c : 2 ^ k - 1 < i + 1
    · rw [if_pos c]
      obtain ⟨a1, a2, a3⟩ := lubyK_spec (f := f) (k := k + 1) (i := i) (by rw [show k + 1 + f = k + (f + 1) by omega]; exact h) (.inr (by rw [Nat.add_sub_cancel]; omega)) (by omega)
      exact ⟨by omega, a2, a3⟩
    · rw [if_neg c]
      exact ⟨Nat.le_refl _, by omega, h2⟩
theorem lubyK_ok {i : Nat} (hi : i ≤ 1000000000) : 1 ≤ lubyK i 64 1 ∧ lubyK i 64 1 ≤ 31 ∧ i + 2 ≤ 2 ^ (lubyK i 64 1) ∧ (lubyK i 64 1 = 1 ∨ 2 ^ (lubyK i 64 1 - 1) < i + 2) := by
  obtain ⟨a1, a2, a3⟩ := lubyK_spec (i := i) (f := 64) (k := 1) (Nat.le_trans (show i + 2 ≤ 2 ^ 31 by omega) (Nat.pow_le_pow_right (by omega) (by omega))) (.inl rfl) (Nat.le_refl _)
  refine ⟨a1, ?_, a2, a3⟩
  rcases a3 with e | e
  · omega
  · by_cases c : lubyK i 64 1 ≤ 31
    · exact c
    · have := Nat.pow_le_pow_right (n := 2) (by omega) (show 31 ≤ lubyK i 64 1 - 1 by omega)
      omega
/-- what is left is found sooner -/
theorem luby_step {i : Nat} (hi : i ≤ 1000000000) (hne : ¬ 2 ^ lubyK i 64 1 - 1 = i + 1) : 2 ^ (lubyK i 64 1 - 1) - 1 ≤ i ∧ i - (2 ^ (lubyK i 64 1 - 1) - 1) ≤ i ∧ lubyK (i - (2 ^ (lubyK i 64 1 - 1) - 1)) 64 1 < lubyK i 64 1 := by
  obtain ⟨a1, a2, a3, a4⟩ := lubyK_ok hi
  obtain ⟨K, hK⟩ : ∃ K, lubyK i 64 1 = K := ⟨_, rfl⟩
  rw [hK] at a1 a2 a3 a4 hne ⊢
  rcases a4 with e | e
  · subst e
    exfalso
    have : (2 : Nat) ^ 1 = 2 := rfl
    omega
  · obtain ⟨q, rfl⟩ : ∃ q, K = q + 1 := ⟨K - 1, by omega⟩
    rw [Nat.add_sub_cancel] at e ⊢
    have hp := two_pos q
    have hp2 : 2 ^ (q + 1) = 2 ^ q * 2 := Nat.pow_succ ..
    have hle : i - (2 ^ q - 1) ≤ 1000000000 := by omega
    obtain ⟨b1, b2, b3, b4⟩ := lubyK_ok hle
    refine ⟨by omega, by omega, ?_⟩
    rcases b4 with e2 | e2
    · by_cases hq : q = 0
      · subst hq
        have : (2 : Nat) ^ 0 = 1 := rfl
        omega
      · omega
    · by_cases c : lubyK (i - (2 ^ q - 1)) 64 1 < q + 1
      · exact c
      · have := Nat.pow_le_pow_right (n := 2) (by omega) (show q ≤ lubyK (i - (2 ^ q - 1)) 64 1 - 1 by omega)
        omega
def LuK (i K : Nat) (kv : Value) : Prop := ∃ k f : Nat, kv = .int .i64 (k : Nat) ∧ f + k = 65 ∧ 1 ≤ k ∧ k ≤ 32 ∧ lubyK i f k = K
def LuO (R : Nat) (iv kv : Value) : Prop := ∃ i f : Nat, iv = .int .i64 (i : Nat) ∧ kv = .int .i64 (lubyK i 64 1 : Nat) ∧ i ≤ 1000000000 ∧ luby f i = R ∧ lubyK i 64 1 ≤ f
theorem luK_step {i f k K : Nat} (h : lubyK i (f + 1) k = K) (hi : i ≤ 1000000000) (hk1 : 1 ≤ k) (hk : k ≤ 32) : (2 ^ k - 1 < i + 1 → k + 1 ≤ 32 ∧ lubyK i f (k + 1) = K) ∧ (¬ 2 ^ k - 1 < i + 1 → k = K) := by
  unfold lubyK at h
  constructor
  · intro c
    rw [if_pos c] at h
    refine ⟨?_, h⟩
    by_cases c2 : k + 1 ≤ 32
    · exact c2
    · obtain rfl : k = 32 := by omega
      have : (2 : Nat) ^ 32 = 4294967296 := rfl
      omega
  · intro c; rw [if_neg c] at h; exact h
set_option maxRecDepth 100000 in
set_option maxHeartbeats 4000000 in
theorem luby_any {w : World} {i : Nat} (hi : i ≤ 1000000000) : Calls Tryd.prog 30 #[.int .i64 (i : Nat)] w fun e w' => e = .returned (.int .i64 (luby 64 i : Nat)) ∧ w = w' := by
  obtain ⟨R, hR⟩ : ∃ R, luby 64 i = R := ⟨_, rfl⟩
  obtain ⟨K, hK⟩ : ∃ K, lubyK i 64 1 = K := ⟨_, rfl⟩
  rw [hR]
  have HR := Lib.hid hR
  have HK := Lib.hid hK
  have HI := Lib.hid hi
  clear hR hK hi
  have wi : ∀ j : Nat, j ≤ 1000000000 → IntKind.i64.wrap ((j : Int) + 1) = (j : Int) + 1 := fun j hj => by rw [IntKind.wrap_i64]; omega
  have HWI := Lib.hid wi
  have wk : ∀ k : Nat, k ≤ 40 → IntKind.i64.wrap ((k : Int) + 1) = ((k + 1 : Nat) : Int) := fun j hj => by rw [IntKind.wrap_i64]; omega
  have HWK := Lib.hid wk
  have wp : ∀ k : Nat, k ≤ 40 → ∃ P : Nat, 2 ^ k = P ∧ 1 ≤ P ∧ IntKind.i64.wrap ((2 : Int) ^ k) = (P : Int) ∧ IntKind.i64.wrap ((P : Int) - 1) = (P : Int) - 1 ∧ P ≤ 1099511627776 := fun k hk => by
    have h1 : 2 ^ k ≤ 2 ^ 40 := Nat.pow_le_pow_right (by omega) hk
    have h2 := two_pos k
    have e : (2 : Nat) ^ 40 = 1099511627776 := rfl
    refine ⟨2 ^ k, rfl, h2, ?_, ?_, by omega⟩
    · have : ((2 : Int) ^ k) = ((2 ^ k : Nat) : Int) := by simp
      rw [this, IntKind.wrap_i64]; omega
    · rw [IntKind.wrap_i64]; omega
  have HWP := Lib.hid wp
  clear wi wk wp
  go_enter Tryd.func30, Tryd.ntmps30
  go_wp2_with fail
  go_loop [3] (fun kv => LuK i K kv) (fun kv => 100 - (intOf kv).toNat)
  case atStart => exact ⟨1, 64, rfl, rfl, Nat.le_refl _, by omega, HK.out⟩
  case round =>
    obtain ⟨k, f, e1, hf, hk1, hk, hlk⟩ := hrel
    subst e1
    cases f with
    | zero => omega
    | succ f =>
    obtain ⟨P, hP, hP1, wP, wP1, hPb⟩ := HWP.out k (by omega)
    have wi := HWI.out i HI.out
    have wk1 := HWK.out k (by omega)
    have hkN : k < 64 := by omega
    obtain ⟨s1, s2⟩ := luK_step hlk HI.out hk1 hk
    by_cases c : 2 ^ k - 1 < i + 1
    · obtain ⟨h1, h2⟩ := s1 c
      have t1 : decide ((P : Int) - 1 < (i : Int) + 1) = true := decide_eq_true (by rw [hP] at c; omega)
      have t1' : (P : Int) - 1 < (i : Int) + 1 := by rw [hP] at c; omega
      have HN := Lib.hid (show LuK i K (.int .i64 ((k + 1 : Nat) : Int)) from ⟨k + 1, f, rfl, by omega, by omega, h1, h2⟩)
      clear hlk s1 s2 c h1 h2 hP
      go_wp2_with fail
      go_round
      case rel => exact HN.out
      case measure => simp [intOf]; omega
    · obtain rfl := s2 c
      have t1 : decide ((P : Int) - 1 < (i : Int) + 1) = false := decide_eq_false (by rw [hP] at c; omega)
      have t1' : ¬ (P : Int) - 1 < (i : Int) + 1 := by rw [hP] at c; omega
      have HST := Lib.hid (show LuO R (.int .i64 (i : Nat)) (.int .i64 (k : Nat)) from ⟨i, 64, rfl, by rw [HK.out], HI.out, HR.out, by rw [HK.out]; omega⟩)
      clear hlk s1 s2 c hP
      go_wp2_with fail
      clear wP wP1 t1 t1' wi wk1 hP1 hPb
      go_loop [0, 3] (fun iv kv => LuO R iv kv) (fun _ kv => (intOf kv).toNat)
      case atStart => exact HST.out
      case round =>
        clear HST
        obtain ⟨j, g, e1, e2, hj, hlu, hKg⟩ := hrel
        subst e1
        obtain ⟨L, hL⟩ : ∃ L, lubyK j 64 1 = L := ⟨_, rfl⟩
        obtain ⟨b1, b2, b3, b4⟩ := lubyK_ok hj
        have hst := luby_step hj
        rw [hL] at e2 hKg b1 b2 b3 b4 hst
        subst e2
        cases g with
        | zero => omega
        | succ g =>
        unfold luby at hlu
        rw [hL] at hlu
        obtain ⟨P, hP, hP1, wP, wP1, hPb⟩ := HWP.out L (by omega)
        obtain ⟨L1, hL1⟩ : ∃ L1, L = L1 + 1 := ⟨L - 1, by omega⟩
        obtain ⟨P1, hPP, hPP1, wPP, wPP1, hPPb⟩ := HWP.out L1 (by omega)
        rw [show L - 1 = L1 by omega, hP, hPP] at hlu
        rw [show L - 1 = L1 by omega, hP, hPP] at hst
        have wL : IntKind.i64.wrap ((L : Int) - 1) = (L1 : Int) := by rw [IntKind.wrap_i64]; omega
        have wj := HWI.out j hj
        have hLN : L < 64 := by omega
        have hL1N : L1 < 64 := by omega
        by_cases c : P - 1 = j + 1
        · rw [if_pos c] at hlu
          have t1 : (((P : Int) - 1) != ((j : Int) + 1)) = false := by simp; omega
          have HE := Lib.hid hlu
          clear hlu hst c b3 b4 hKg hP hPP hL hL1
          go_wp2_with fail
          go_ret
          exact ⟨by rw [HE.out]; rfl, rfl⟩
        · rw [if_neg c] at hlu
          obtain ⟨q1, q2, q3⟩ := hst c
          have t1 : (((P : Int) - 1) != ((j : Int) + 1)) = true := by simp; omega
          obtain ⟨j2, hj2⟩ : ∃ j2, j - (P1 - 1) = j2 := ⟨_, rfl⟩
          rw [hj2] at hlu q2 q3
          have wj2 : IntKind.i64.wrap ((j : Int) - ((P1 : Int) - 1)) = (j2 : Int) := by rw [IntKind.wrap_i64]; omega
          have HN := Lib.hid (And.intro hlu (And.intro q3 (And.intro hKg (show j2 ≤ 1000000000 by omega))))
          clear hlu hst c b3 b4 hKg hP hPP hL hL1 hj2 q1 q2 q3
          go_wp2_with fail
          go_loop [3] (fun kv => LuK j2 (lubyK j2 64 1) kv) (fun kv => 100 - (intOf kv).toNat)
          case atStart => exact ⟨1, 64, rfl, rfl, Nat.le_refl _, by omega, rfl⟩
          case round =>
            obtain ⟨k3, f3, e1, hf3, hk31, hk3, hlk3⟩ := hrel
            subst e1
            cases f3 with
            | zero => omega
            | succ f3 =>
            obtain ⟨P3, hP3, hP31, wP3, wP31, hP3b⟩ := HWP.out k3 (by omega)
            have wi3 := HWI.out j2 HN.out.2.2.2
            have wk3 := HWK.out k3 (by omega)
            have hk3N : k3 < 64 := by omega
            obtain ⟨s1, s2⟩ := luK_step hlk3 HN.out.2.2.2 hk31 hk3
            rw [hP3] at s1 s2
            by_cases c3 : P3 - 1 < j2 + 1
            · obtain ⟨h1, h2⟩ := s1 c3
              have t3 : decide ((P3 : Int) - 1 < (j2 : Int) + 1) = true := decide_eq_true (by omega)
              have t3' : (P3 : Int) - 1 < (j2 : Int) + 1 := by omega
              have HN3 := Lib.hid (show LuK j2 (lubyK j2 64 1) (.int .i64 ((k3 + 1 : Nat) : Int)) from ⟨k3 + 1, f3, rfl, by omega, by omega, h1, h2⟩)
              clear hlk3 s1 s2 c3 h1 h2 hP3
              go_wp2_with fail
              go_round
              case rel => exact HN3.out
              case measure => simp [intOf]; omega
            · have hk3e := s2 c3
              have t3 : decide ((P3 : Int) - 1 < (j2 : Int) + 1) = false := decide_eq_false (by omega)
              have t3' : ¬ (P3 : Int) - 1 < (j2 : Int) + 1 := by omega
              have HO := Lib.hid (show LuO R (.int .i64 (j2 : Nat)) (.int .i64 (k3 : Nat)) from ⟨j2, g, rfl, by rw [hk3e], HN.out.2.2.2, HN.out.1, by have := HN.out.2.1; have := HN.out.2.2.1; omega⟩)
              have HD := Lib.hid (show k3 < L by rw [hk3e]; exact HN.out.2.1)
              clear hlk3 s1 s2 c3 hk3e hP3
              go_wp2_with fail
              go_round
              case rel => exact HO.out
              case measure => have := HD.out; simp [intOf]; omega
end Go.Proofs.YtaedbnbeelkkcaaDoor.slv
namespace Go.Proofs.YtaedbnbeelkkcaaDoor.slv
open Go.RowKit
theorem info_clauseA : (Tryd.prog.info? 26).map (fun i => (i.zero, i.size, i.bytes)) = some (some (.slice none 0 0), 1, 24) := by kernel_rfl
section
variable {w : World} {tag : Nat → Tag} {p V : Nat} {y : SLay} {s : SS}
/-- a proof as it is answered -/
def PrA (w : World) (tag : Nat → Tag) (pv : Value) (pf : List (List Int)) : Prop :=
  ∃ rows, Row w tag (15, 0) 0 26 pv rows ∧ rows.length = pf.length ∧ ∀ (k : Nat) x u, pf[k]? = some x → rows[k]? = some u → Row w tag (16, (k : Int)) 0 3 u (litVals x)
theorem PrA.new {w' : World} {pv : Value} {pf : List (List Int)} (h : PrA w tag pv pf) (hb : Below w.heap.size w w') : PrA w' tag pv pf := by
  obtain ⟨rows, h1, h2, h3⟩ := h
  exact ⟨rows, h1.chg (S := fun _ => False) (cg_new hb) id, h2, fun k x u hx hu => (h3 k x u hx hu).chg (S := fun _ => False) (cg_new hb) id⟩
def NoP (w : World) (tag : Nat → Tag) (pf : List (List Int)) (e : Ending) (w' : World) : Prop :=
  ∃ pv tag', e = .returned (.agg #[.string ⟨#[110, 111]⟩, .slice none 0 0, pv]) ∧ Re w tag tag' ∧ Cg tag (Fr 16) w w' ∧ PrA w' tag' pv pf
set_option maxRecDepth 100000 in
set_option maxHeartbeats 4000000 in
theorem no_any (h : Slv w tag p V y s) (hpf : s.pf.length ≤ 4000000) :
    Calls Tryd.prog 29 #[.pointer (some ⟨p, 0, none⟩)] w (NoP w tag (s.pf ++ [[]])) := by
  obtain ⟨i0, hi0, hz0, hz1, hz2⟩ := info_parts info_clauseA
  have HI := Lib.hid (And.intro hi0 (And.intro hz0 (And.intro hz1 hz2)))
  clear hi0 hz0 hz1 hz2
  obtain ⟨n, hn⟩ : ∃ n, s.pf.length = n := ⟨_, rfl⟩
  obtain ⟨vC, rows, gw, wrows, gv, gl, gr, vt, vL, gs, gp, vh, gP, vP, prows⟩ := y
  obtain ⟨AP, cP, hvP⟩ := h.prf.form
  have hpl : prows.length = n := by have := h.plen; dsimp only at this; omega
  rw [hpl] at hvP
  dsimp only at hvP
  subst hvP
  obtain ⟨W0, hW0⟩ : ∃ W0, W0 = w.alloc (.cells #[.string ⟨#[]⟩, .slice none 0 0, .slice none 0 0] 45) := ⟨_, rfl⟩
  have hb0 : Below w.heap.size w W0 := by rw [hW0]; exact (Below.refl _ _).alloc (Nat.le_refl _) _
  obtain ⟨tag0, ht0, ht00⟩ : ∃ tag0, Re w tag tag0 ∧ tag0 w.heap.size = (0, 0) := ⟨put tag w.heap.size (0, 0), re_put (Nat.le_refl _), put_same _ _ _⟩
  have h0 := (h.re ht0).new hb0
  have k0 : Blk W0 w.heap.size 45 #[.string ⟨#[]⟩, .slice none 0 0, .slice none 0 0] := by rw [hW0]; exact Blk.new w _ _
  have c14 : W0.cell? ⟨p, 14, none⟩ = some (.slice AP n cP) := h0.blk.cell 14
  -- the clause without numbers
  obtain ⟨W2, hW2⟩ : ∃ W2, (W0.alloc (.cells #[] 3)).alloc (.cells #[.slice (some ⟨W0.heap.size, 0, none⟩) 0 0] 26) = W2 := ⟨_, rfl⟩
  have hb2 : Below W0.heap.size W0 W2 := by rw [← hW2]; exact (Below.alloc (Below.refl W0.heap.size W0) (Nat.le_refl _) _).alloc (by simp) _
  have hs2 : W2.heap.size = W0.heap.size + 2 := by rw [← hW2]; simp
  have hre2 : Re W0 tag0 (put tag0 W0.heap.size (16, (n : Int))) := re_put (Nat.le_refl _)
  have h2 := (h0.re hre2).new hb2
  have hE : Row W2 (put tag0 W0.heap.size (16, (n : Int))) (16, (n : Int)) 0 3 (.slice (some ⟨W0.heap.size, 0, none⟩) 0 0) (litVals []) := by
    refine ⟨⟨by simp [litVals], .inr ⟨W0.heap.size, 0, #[], rfl, Nat.zero_le _, ?_, by simp [litVals], by simp [maxLen], by simp, by simp [litVals]⟩⟩, fun g hg => ?_⟩
    · rw [← hW2]
      exact (Blk.new W0 3 #[]).alloc _
    · injection hg with hg
      subst hg
      exact put_same _ _ _
  have HO2 := Lib.hid (show W2.ownsRow 0 26 1 (.slice AP n cP) n prows from by
    have := h2.prf.own
    rw [hpl] at this; exact this)
  have c14' : W2.cell? ⟨p, 14, none⟩ = some (.slice AP n cP) := h2.blk.cell 14
  have k2 : Blk W2 w.heap.size 45 #[.string ⟨#[]⟩, .slice none 0 0, .slice none 0 0] := k0.below hb2 k0.lt
  have hrd : Reads W2 W2.heap.size 1 (some ⟨W0.heap.size + 1, 0, none⟩) 1 [.slice (some ⟨W0.heap.size, 0, none⟩) 0 0] := by
    rw [← hW2]
    exact reads_new (by simp) (by simp) rfl
  have HRD := Lib.hid hrd
  have HW0 := Lib.hid hW0
  have HW2 := Lib.hid hW2
  have H2 := Lib.hid h2
  have HE := Lib.hid hE
  have K2 := Lib.hid k2
  have HB0 := Lib.hid hb0
  have HB2 := Lib.hid hb2
  have HRE2 := Lib.hid hre2
  have HN := Lib.hid (And.intro hn hpl)
  have HT0 := Lib.hid (And.intro ht0 ht00)
  have HP0 := Lib.hid k0.lt
  have hn4 : n ≤ 4000000 := by omega
  clear h hW0 h0 k0 hb0 hE h2 hre2 k2 hb2 hrd hW2 hn hpl ht0 ht00
  go_enter Tryd.func29, Tryd.ntmps29
  go_upto_region 1 with fail
  rw [← HW0.out]
  have hw2 := HW2.out
  go_wp2_with (first | (at_builtin; refine wpList_append_loc _ rfl (.tmp 6) (.tmp 8) _ rfl 0 26 i0 _ 1 24 Tryd.underlying22 HI.out.1 HI.out.2.1 HI.out.2.2.1 HI.out.2.2.2 rfl (by omega) (.slice AP n cP) n prows rfl HO2.out W2.heap.size (some ⟨W0.heap.size + 1, 0, none⟩) 1 1 [.slice (some ⟨W0.heap.size, 0, none⟩) 0 0] rfl HRD.out (by intro u hu; rw [List.mem_singleton.1 hu]; rfl) (by unfold maxLen; omega) (by omega) (Nat.zero_le _) ?_; intro A6 c6 w6 hown6 hg6 hl6; have k6 := K2.out.grown hg6 (own_blk_ne HO2.out K2.out (by decide)).symm; have r0 := k6.cell 0; have r1 := k6.cell 1; have r2 := k6.cell 2; have fr0 := k6.frozen 0; have fr1 := k6.frozen 1; have fr2 := k6.frozen 2; have K6 := Lib.hid k6; have HO6 := Lib.hid hown6; have HG6 := Lib.hid hg6; have HL6 := Lib.hid hl6; clear hown6 hg6 hl6 k6) | fail)
  obtain ⟨W9, hW9⟩ : ∃ W9, W9 = ((w6.setCell ⟨w.heap.size, 0, none⟩ (.string ⟨#[110, 111]⟩)).setCell ⟨w.heap.size, 1, none⟩ (.slice none 0 0)).setCell ⟨w.heap.size, 2, none⟩ (.slice A6 (n + 1) c6) := ⟨_, rfl⟩
  have x9 : Blk W9 w.heap.size 45 #[.string ⟨#[110, 111]⟩, .slice none 0 0, .slice A6 (n + 1) c6] := by rw [hW9]; exact ((K6.out.set_ 0 _).set_ 1 _).set_ 2 _
  have x90 := x9.cell 0
  have x91 := x9.cell 1
  have x92 := x9.cell 2
  rw [← hW9]
  refine bodyPost_ret (v := .agg #[.string ⟨#[110, 111]⟩, .slice none 0 0, .slice A6 (n + 1) c6]) (by simp [results, Tryd.results29, go_sem, x90, x91, x92]) rfl ?_
  obtain ⟨tag6, hr6, hrow6, hc6⟩ := H2.out.prf.grown (v' := .slice A6 (n + 1) c6) (n := n + 1) (ys := prows ++ [.slice (some ⟨W0.heap.size, 0, none⟩) 0 0]) HO6.out (by rw [List.length_append, HN.out.2]; rfl) HG6.out HL6.out
  have hszW : w.heap.size ≤ W2.heap.size := by have := HB0.out.size; have := HB2.out.size; omega
  have hs0 := HB0.out.size
  have hre0 : Re w tag (put tag0 W0.heap.size (16, (n : Int))) := fun g hg => (HRE2.out g (by omega)).trans (HT0.out.1 g hg)
  have hre : Re w tag tag6 := fun g hg => (hr6 g (by omega)).trans (hre0 g hg)
  have hc6' := hc6.re_ hr6
  have hcg6 : Cg tag (Fr 16) w w6 := Cg.trans_ (w' := W2) (cg_new (HB0.out.trans (HB2.out.mono HB0.out.size))) (hc6.mono_ (S' := Fr 16) fun t e => by subst e; exact ⟨by show 1 ≤ 15; decide, by show 15 ≤ 16; decide⟩) hre0
  have hcg9 : Cg tag (Fr 16) w W9 := by
    rw [hW9]
    exact ((hcg6.setCell (p := ⟨w.heap.size, 0, none⟩) (.inl (Nat.le_refl _)) _).setCell (p := ⟨w.heap.size, 1, none⟩) (.inl (Nat.le_refl _)) _).setCell (p := ⟨w.heap.size, 2, none⟩) (.inl (Nat.le_refl _)) _
  have ht6 : tag6 w.heap.size = (0, 0) := by
    rw [hr6 _ K2.out.lt, HRE2.out _ HP0.out]
    exact HT0.out.2
  have hc9 : Cg tag6 (fun t => t = (0, 0)) w6 W9 := by
    rw [hW9]
    exact (((Chg.refl _ w6).setCell (p := ⟨w.heap.size, 0, none⟩) (.inr fun _ => ht6) _).setCell (p := ⟨w.heap.size, 1, none⟩) (.inr fun _ => ht6) _).setCell (p := ⟨w.heap.size, 2, none⟩) (.inr fun _ => ht6) _
  refine ⟨_, tag6, rfl, hre, hcg9, prows ++ [.slice (some ⟨W0.heap.size, 0, none⟩) 0 0], hrow6.chg hc9 (by simp), ?_, fun k x u hx hu => ?_⟩
  · rw [List.length_append, List.length_append, HN.out.1, HN.out.2]; rfl
  · by_cases hk : k < n
    · rw [List.getElem?_append_left (by rw [HN.out.1]; exact hk)] at hx
      rw [List.getElem?_append_left (by rw [HN.out.2]; exact hk)] at hu
      exact (((H2.out.prc k x u hx hu).re hr6).chg hc6' (by simp)).chg hc9 (by simp)
    · have hkn : k = n := by
        have := (List.getElem?_eq_some_iff.1 hx).1
        rw [List.length_append, HN.out.1] at this
        simp at this; omega
      subst hkn
      rw [List.getElem?_append_right (by rw [HN.out.1]; exact Nat.le_refl _), HN.out.1, Nat.sub_self] at hx
      rw [List.getElem?_append_right (by rw [HN.out.2]; exact Nat.le_refl _), HN.out.2, Nat.sub_self] at hu
      injection hx with hx
      injection hu with hu
      subst hx
      subst hu
      exact ((HE.out.re hr6).chg hc6' (by simp)).chg hc9 (by simp)
end
end Go.Proofs.YtaedbnbeelkkcaaDoor.slv
