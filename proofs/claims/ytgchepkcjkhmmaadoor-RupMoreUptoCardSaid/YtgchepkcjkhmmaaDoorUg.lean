/-
  WALKS of slices.SortStableFunc's family at int: symMerge (any), stable, SortStableFunc.
-/
import Derived.Test.YtgchepkcjkhmmaaDoorUf
namespace Go.Proofs.YtgchepkcjkhmmaaDoor.srt
open Go.RowKit Go.Sort
/-! ### plain: blocks -/
def Bls (f : Int → Int) (d : List Int) (bs n : Nat) : Prop := ∀ i, Srt f d (bs * i) (min (bs * i + bs) n)
structure Mrg (f : Int → Int) (d : List Int) (bs n A : Nat) : Prop where
  at_ : ∃ k, A = 2 * bs * k
  done : ∀ i, 2 * bs * i + 2 * bs ≤ A → Srt f d (2 * bs * i) (2 * bs * i + 2 * bs)
  todo : ∀ i, A ≤ bs * i → Srt f d (bs * i) (min (bs * i + bs) n)
theorem srt_empty {f : Int → Int} {d : List Int} {a b : Nat} (h : b ≤ a + 1) : Srt f d a b := Srt.one h
theorem Mrg.start {f : Int → Int} {d : List Int} {bs n : Nat} (h : Bls f d bs n) (_hb : 0 < bs) : Mrg f d bs n 0 :=
  ⟨⟨0, rfl⟩, fun i hi => by omega, fun i _ => h i⟩
theorem Mrg.left {f : Int → Int} {d : List Int} {bs n A : Nat} (h : Mrg f d bs n A) (hn : A + bs ≤ n) : Srt f d A (A + bs) := by
  obtain ⟨k, hk⟩ := h.at_
  have := h.todo (2 * k) (by rw [hk, Nat.mul_comm 2 bs, Nat.mul_assoc]; exact Nat.le_refl _)
  rw [show bs * (2 * k) = A by rw [hk, Nat.mul_comm 2 bs, Nat.mul_assoc], Nat.min_eq_left hn] at this
  exact this
theorem Mrg.right {f : Int → Int} {d : List Int} {bs n A : Nat} (h : Mrg f d bs n A) {b : Nat} (hb : b = min (A + bs + bs) n) : Srt f d (A + bs) b := by
  obtain ⟨k, hk⟩ := h.at_
  have e : bs * (2 * k + 1) = A + bs := by rw [hk, Nat.mul_add, Nat.mul_one, Nat.mul_comm 2 bs, Nat.mul_assoc]
  have := h.todo (2 * k + 1) (by omega)
  rw [e, ← hb] at this
  exact this
theorem Mrg.lt_of {bs A i : Nat} {k : Nat} (hk : A = 2 * bs * k) (h : ¬ 2 * bs * i + 2 * bs ≤ A) : A ≤ 2 * bs * i := by
  subst hk
  rcases Nat.lt_or_ge i k with h1 | h1
  · exfalso; apply h
    have := Nat.mul_le_mul_left (2 * bs) (show i + 1 ≤ k by omega)
    rw [Nat.mul_add, Nat.mul_one] at this
    exact this
  · exact Nat.mul_le_mul_left _ h1
theorem Mrg.step {f : Int → Int} {d d' : List Int} {bs n A b : Nat} (h : Mrg f d bs n A) (eb : b = A + 2 * bs) (hs : Srt f d' A b) (hp : Pm A b d d') : Mrg f d' bs n b := by
  subst eb
  obtain ⟨k, hk⟩ := h.at_
  refine ⟨⟨k + 1, by rw [hk, Nat.mul_add, Nat.mul_one]⟩, fun i hi => ?_, fun i hi => ?_⟩
  · by_cases h1 : 2 * bs * i + 2 * bs ≤ A
    · exact (h.done i h1).out (fun j j1 j2 => hp.out j (by omega)) (Nat.le_refl _) (Nat.le_refl _)
    · have := Mrg.lt_of hk h1
      have e : 2 * bs * i = A := by omega
      rw [e]; exact hs
  · exact (h.todo i (by omega)).out (fun j j1 j2 => hp.out j (by omega)) (Nat.le_refl _) (Nat.le_refl _)
theorem Mrg.stop {f : Int → Int} {d d' : List Int} {bs n A : Nat} (h : Mrg f d bs n A) (hA : A ≤ n) (hs : Srt f d' A n) (hp : Pm A n d d') : Bls f d' (2 * bs) n := fun i => by
  obtain ⟨k, hk⟩ := h.at_
  by_cases h1 : 2 * bs * i + 2 * bs ≤ A
  · rw [Nat.min_eq_left (by omega)]
    exact (h.done i h1).out (fun j j1 j2 => hp.out j (by omega)) (Nat.le_refl _) (Nat.le_refl _)
  · have := Mrg.lt_of hk h1
    exact hs.less this (Nat.min_le_right _ _)
theorem Mrg.rest {f : Int → Int} {d : List Int} {bs n A : Nat} (h : Mrg f d bs n A) (hn : n ≤ A + bs) : Srt f d A n := by
  obtain ⟨k, hk⟩ := h.at_
  have e : bs * (2 * k) = A := by rw [hk, Nat.mul_comm 2 bs, Nat.mul_assoc]
  have := h.todo (2 * k) (by rw [e]; exact Nat.le_refl _)
  rw [e, Nat.min_eq_right hn] at this
  exact this
theorem bls_20 {f : Int → Int} {d d' : List Int} {n k : Nat} (h : ∀ i, i < k → Srt f d (20 * i) (20 * i + 20)) (hk : 20 * k ≤ n) (hn : n < 20 * k + 20) (hs : Srt f d' (20 * k) n) (hp : Pm (20 * k) n d d') : Bls f d' 20 n := fun i => by
  by_cases h1 : i < k
  · rw [Nat.min_eq_left (by omega)]
    exact (h i h1).out (fun j j1 j2 => hp.out j (by omega)) (Nat.le_refl _) (Nat.le_refl _)
  · exact hs.less (by omega) (Nat.min_le_right _ _)
/-! ### symMerge -/
theorem sym_any {w : World} {g N cap gf : Nat} {cb : Array Value} {f : Int → Int} {D : Int → Prop} {d0 : List Int} (hH : Holds (Value.int .i64) w g 0 d0.toArray) (hl0 : d0.length = N) (hN : N ≤ 1000000) (hf : ∀ x, D x → -1 ≤ f x ∧ f x ≤ 1)
    (eg : ∀ args w, (callFunc gf args).run Tryd.prog w = .ok (.enter gf args) w) (hc : CmpOk gf cb f D w g N) (sz : Nat) :
    ∀ (a md b m : Nat) (d : List Int), b - a < sz → a < md → md < b → b ≤ N → d.length = N → (∀ x ∈ d, D x) → Srt f d a md → Srt f d md b → Calls Tryd.prog 68 #[.slice (some ⟨g, 0, none⟩) N cap, .int .i64 (a : Nat), .int .i64 (md : Nat), .int .i64 (b : Nat), .func (.func gf) #[] cb] (rowW w g d m) fun e w' => e = .returned (.tuple #[]) ∧ ∃ m' d', w' = rowW w g d' m' ∧ Srt f d' a b ∧ Pm a b d d' := by
  induction sz with
  | zero => intro a md b m d h; omega
  | succ sz ih =>
    intro a md b m d hsz ham hmb hb hl hD h1 h2
    by_cases e1 : a + 1 = md
    · subst e1
      exact sym_left hH hl0 hl hN hD hf eg hc hmb hb h2
    · by_cases e2 : md + 1 = b
      · subst e2
        exact sym_right hH hl0 hl hN hD hf eg hc (by omega) hb h1
      · exact sym_gen hH hl0 hN hf eg hc (b - a) (fun a' md' b' m' d' h => ih a' md' b' m' d' (by omega)) a md b m d rfl (by omega) (by omega) hb hl hD h1 h2
/-! ### stable -/
def StI (f : Int → Int) (w : World) (g n : Nat) (d : List Int) (av bv : Value) (wr : World) : Prop := ∃ (k m' : Nat) (d' : List Int), 20 * k ≤ n ∧ av = .int .i64 ((20 * k : Nat) : Int) ∧ bv = .int .i64 ((20 * k + 20 : Nat) : Int) ∧ wr = rowW w g d' m' ∧ (∀ i, i < k → Srt f d' (20 * i) (20 * i + 20)) ∧ Pm 0 n d d'
def StO (f : Int → Int) (w : World) (g n : Nat) (d : List Int) (sv : Value) (wr : World) : Prop := ∃ (bs m' : Nat) (d' : List Int), 0 < bs ∧ bs ≤ 2000040 ∧ sv = .int .i64 (bs : Nat) ∧ wr = rowW w g d' m' ∧ Bls f d' bs n ∧ Pm 0 n d d'
def StM (f : Int → Int) (w : World) (g n bs : Nat) (d : List Int) (av bv : Value) (wr : World) : Prop := ∃ (A m' : Nat) (d' : List Int), A ≤ n ∧ av = .int .i64 (A : Nat) ∧ bv = .int .i64 ((A + 2 * bs : Nat) : Int) ∧ wr = rowW w g d' m' ∧ Mrg f d' bs n A ∧ Pm 0 n d d'
set_option maxRecDepth 100000 in
set_option maxHeartbeats 4000000 in
theorem stable_w {w : World} {g N cap m gf : Nat} {cb : Array Value} {f : Int → Int} {D : Int → Prop} {d d0 : List Int} (hH : Holds (Value.int .i64) w g 0 d0.toArray) (hl0 : d0.length = N) (hl : d.length = N) (hN : N ≤ 1000000) (hD : ∀ x ∈ d, D x) (hf : ∀ x, D x → -1 ≤ f x ∧ f x ≤ 1)
    (eg : ∀ args w, (callFunc gf args).run Tryd.prog w = .ok (.enter gf args) w) (hc : CmpOk gf cb f D w g N) :
    Calls Tryd.prog 52 #[.slice (some ⟨g, 0, none⟩) N cap, .int .i64 (N : Nat), .func (.func gf) #[] cb] (rowW w g d m) fun e w' => e = .returned (.tuple #[]) ∧ ∃ m' d', w' = rowW w g d' m' ∧ Srt f d' 0 N ∧ Pm 0 N d d' := by
  have CI := Lib.hid (fun (d' : List Int) (m' a b : Nat) (h1 : d'.length = N) (h2 : ∀ x ∈ d', D x) (h3 : a ≤ b) (h4 : b ≤ N) => insertion_w (cap := cap) (m := m') hH hl0 h1 hN h2 hf eg hc h3 h4)
  have CS := Lib.hid (fun (d' : List Int) (m' a md b : Nat) (h1 : d'.length = N) (h2 : ∀ x ∈ d', D x) (h3 : a < md) (h4 : md < b) (h5 : b ≤ N) (h6 : Srt f d' a md) (h7 : Srt f d' md b) => sym_any (cap := cap) hH hl0 hN hf eg hc (b - a + 1) a md b m' d' (Nat.lt_succ_self _) h3 h4 h5 h1 h2 h6 h7)
  have HL := Lib.hid hl
  have HD := Lib.hid hD
  clear hH hl hl0 hc hD hf
  go_enter Tryd.func52, Tryd.ntmps52
  go_wp2_with fail
  go_loopw [7, 8] (fun av bv wr => StI f w g N d av bv wr) (fun _ bv _ => N + 20 - (intOf bv).toNat)
  case atStart => exact ⟨0, m, d, Nat.zero_le _, rfl, rfl, rfl, fun i h => absurd h (by omega), Pm.refl _ _ _⟩
  case round =>
    obtain ⟨k, m1, d1, hk, rfl, rfl, rfl, hs, hp⟩ := hrel
    have HS := Lib.hid hs
    have HP := Lib.hid hp
    have HL1 := Lib.hid (show d1.length = N by rw [hp.len, HL.out])
    have HD1 := Lib.hid (show ∀ x ∈ d1, D x from hp.mem HD.out)
    clear hs hp
    obtain ⟨a, ha⟩ : ∃ a, 20 * k = a := ⟨_, rfl⟩
    obtain ⟨b, hb⟩ : ∃ b, a + 20 = b := ⟨_, rfl⟩
    have hab : a + 20 ≤ b ∧ b ≤ a + 20 := by omega
    have HA := Lib.hid ha
    have HB := Lib.hid hb
    rw [ha] at hk
    rw [ha, hb]
    clear ha hb
    have wb : IntKind.i64.wrap ((b : Int) + 20) = ((b + 20 : Nat) : Int) := by rw [IntKind.wrap_i64]; omega
    by_cases hlt : b ≤ N
    · go_wp2_with fail
      refine (CI.out d1 m1 a b HL1.out HD1.out (by omega) hlt).mono ?_
      rintro _ w2 ⟨rfl, m2, d2, rfl, hs2, hp2⟩
      have HS2 := Lib.hid (show ∀ i, i < k + 1 → Srt f d2 (20 * i) (20 * i + 20) from fun i hi => by
        have h1 := HA.out
        have h2 := HB.out
        by_cases e : i = k
        · subst e; rw [h1, show a + 20 = b by omega]; exact hs2
        · exact (HS.out i (by omega)).out (fun j j1 j2 => hp2.out j (by omega)) (Nat.le_refl _) (Nat.le_refl _))
      have HP2 := Lib.hid (HP.out.trans (hp2.mono (Nat.zero_le _) hlt))
      clear hs2 hp2
      go_wp2_with fail
      go_roundw
      case rel => exact ⟨k + 1, m2, d2, by have := HB.out; have := HA.out; omega, by rw [show 20 * (k + 1) = b by have := HB.out; have := HA.out; omega], by rw [show 20 * (k + 1) + 20 = b + 20 by have := HB.out; have := HA.out; omega]; go_num, rfl, HS2.out, HP2.out⟩
      case measure => simp [intOf]; omega
    · go_wp2_with fail
      refine (CI.out d1 m1 a N HL1.out HD1.out hk (Nat.le_refl _)).mono ?_
      rintro _ w2 ⟨rfl, m2, d2, rfl, hs2, hp2⟩
      have HST := Lib.hid (show StO f w g N d (.int .i64 ((20 : Nat) : Int)) (rowW w g d2 m2) from ⟨20, m2, d2, by omega, by omega, rfl, rfl, by
        have h1 := HA.out
        exact bls_20 (k := k) HS.out (by omega) (by omega) (by rw [h1]; exact hs2) (by rw [h1]; exact hp2), HP.out.trans (hp2.mono (Nat.zero_le _) (Nat.le_refl _))⟩)
      clear hs2 hp2 HS HP HL1 HD1 HA HB hab hk hlt wb
      go_wp2_with fail
      go_loopw [6] (fun sv wr => StO f w g N d sv wr) (fun sv _ => N - (intOf sv).toNat)
      case atStart => exact HST.out
      case round =>
        obtain ⟨bs, m3, d3, hbs, hbs2, rfl, rfl, hbl, hp3⟩ := hrel
        have HBL := Lib.hid hbl
        have HP3 := Lib.hid hp3
        clear hbl hp3
        by_cases hlt : bs < N
        · have hbs3 : bs ≤ 1000000 := by omega
          obtain ⟨b2, hb2⟩ : ∃ b2, 2 * bs = b2 := ⟨_, rfl⟩
          have hb2' : b2 ≤ 2 * bs ∧ 2 * bs ≤ b2 := by omega
          have HB2 := Lib.hid hb2
          have w2 : IntKind.i64.wrap (2 * (bs : Int)) = (b2 : Int) := by rw [IntKind.wrap_i64]; omega
          have w2' : IntKind.i64.wrap ((bs : Int) * 2) = (b2 : Int) := by rw [IntKind.wrap_i64]; omega
          have HST2 := Lib.hid (show StM f w g N bs d (.int .i64 ((0 : Nat) : Int)) (.int .i64 (b2 : Nat)) (rowW w g d3 m3) from ⟨0, m3, d3, Nat.zero_le _, rfl, by rw [← hb2, Nat.zero_add], rfl, Mrg.start HBL.out hbs, HP3.out⟩)
          clear HBL HP3 hb2
          go_wp2_with fail
          go_loopw [7, 8] (fun av bv wr => StM f w g N bs d av bv wr) (fun _ bv _ => N + 2 * bs - (intOf bv).toNat)
          case atStart => exact HST2.out
          case round =>
            obtain ⟨a, m4, d4, ha, rfl, rfl, rfl, hm, hp⟩ := hrel
            have HM := Lib.hid hm
            have HP := Lib.hid hp
            have HL1 := Lib.hid (show d4.length = N by rw [hp.len, HL.out])
            have HD1 := Lib.hid (show ∀ x ∈ d4, D x from hp.mem HD.out)
            clear hm hp
            obtain ⟨b, hb⟩ : ∃ b, a + 2 * bs = b := ⟨_, rfl⟩
            obtain ⟨md, hmd⟩ : ∃ md, a + bs = md := ⟨_, rfl⟩
            have hab : a + 2 * bs ≤ b ∧ b ≤ a + 2 * bs := by omega
            have hmd' : a + bs ≤ md ∧ md ≤ a + bs := by omega
            have HB := Lib.hid hb
            have HMD := Lib.hid hmd
            rw [hb]
            clear hb hmd
            have wm : IntKind.i64.wrap ((a : Int) + (bs : Int)) = (md : Int) := by rw [IntKind.wrap_i64]; omega
            have wb : IntKind.i64.wrap ((b : Int) + (b2 : Int)) = ((b + b2 : Nat) : Int) := by rw [IntKind.wrap_i64]; omega
            by_cases hle : b ≤ N
            · have C := Lib.hid (CS.out d4 m4 a md b HL1.out HD1.out (by omega) (by omega) hle (by rw [← HMD.out]; exact HM.out.left (by omega)) (by rw [← HMD.out]; exact HM.out.right (by omega)))
              go_wp2_with fail
              refine C.out.mono ?_
              rintro _ w2 ⟨rfl, m5, d5, rfl, hs5, hp5⟩
              have HM5 := Lib.hid (HM.out.step HB.out.symm hs5 hp5)
              have HP5 := Lib.hid (HP.out.trans (hp5.mono (Nat.zero_le _) hle))
              clear hs5 hp5
              go_wp2_with fail
              go_roundw
              case rel => exact ⟨b, m5, d5, hle, rfl, by rw [show b + 2 * bs = b + b2 by rw [HB2.out]]; go_num, rfl, HM5.out, HP5.out⟩
              case measure => simp [intOf]; omega
            · by_cases hmn : md < N
              · have C := Lib.hid (CS.out d4 m4 a md N HL1.out HD1.out (by omega) hmn (Nat.le_refl _) (by rw [← HMD.out]; exact HM.out.left (by omega)) (by rw [← HMD.out]; exact HM.out.right (by omega)))
                go_wp2_with fail
                refine C.out.mono ?_
                rintro _ w2 ⟨rfl, m5, d5, rfl, hs5, hp5⟩
                have HM5 := Lib.hid (HM.out.stop ha hs5 hp5)
                have HP5 := Lib.hid (HP.out.trans (hp5.mono (Nat.zero_le _) (Nat.le_refl _)))
                clear hs5 hp5
                go_wp2_with fail
                go_roundw
                case rel => exact ⟨b2, m5, d5, by omega, by omega, rfl, rfl, by rw [← HB2.out]; exact HM5.out, HP5.out⟩
                case measure => simp [intOf]; omega
              · have HM5 := Lib.hid (HM.out.stop ha (HM.out.rest (by omega)) (Pm.refl _ _ _))
                go_wp2_with fail
                go_roundw
                case rel => exact ⟨b2, m4, d4, by omega, by omega, rfl, rfl, by rw [← HB2.out]; exact HM5.out, HP.out⟩
                case measure => simp [intOf]; omega
        · have HSS := Lib.hid (show Srt f d3 0 N from by
            have := HBL.out 0
            rw [Nat.mul_zero, Nat.zero_add, Nat.min_eq_right (by omega)] at this
            exact this)
          go_wp2_with fail
          go_end0
          exact ⟨rfl, m3, d3, rfl, HSS.out, HP3.out⟩
theorem sort_stable_w {w : World} {g N cap m gf : Nat} {cb : Array Value} {f : Int → Int} {D : Int → Prop} {d d0 : List Int} (hH : Holds (Value.int .i64) w g 0 d0.toArray) (hl0 : d0.length = N) (hl : d.length = N) (hN : N ≤ 1000000) (hD : ∀ x ∈ d, D x) (hf : ∀ x, D x → -1 ≤ f x ∧ f x ≤ 1)
    (eg : ∀ args w, (callFunc gf args).run Tryd.prog w = .ok (.enter gf args) w) (hc : CmpOk gf cb f D w g N) :
    Calls Tryd.prog 34 #[.slice (some ⟨g, 0, none⟩) N cap, .func (.func gf) #[] cb] (rowW w g d m) fun e w' => e = .returned (.tuple #[]) ∧ ∃ m' d', w' = rowW w g d' m' ∧ Srt f d' 0 N ∧ Pm 0 N d d' := by
  have C := Lib.hid (stable_w (cap := cap) (m := m) hH hl0 hl hN hD hf eg hc)
  clear hH hl0 hl hD hf hc
  go_enter Tryd.func34, Tryd.ntmps34
  go_wp2_with fail
  refine C.out.mono ?_
  rintro _ w2 ⟨rfl, m5, d5, rfl, hs5, hp5⟩
  go_wp2_with fail
  go_end0
  exact ⟨rfl, m5, d5, rfl, hs5, hp5⟩
end Go.Proofs.YtgchepkcjkhmmaaDoor.srt
