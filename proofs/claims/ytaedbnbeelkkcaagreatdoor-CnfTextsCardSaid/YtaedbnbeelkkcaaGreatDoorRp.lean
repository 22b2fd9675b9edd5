/-
  PLAIN: the text of a formula; what is split into lines and words is these, joined.
-/
import Derived.Lib.SplitLaws
import Derived.Lib.Join
import Derived.Lib.IndexLaws
import Derived.Lib.IndexBytes
import Derived.Lib.Strings
import Derived.Lib.ItoaNum
namespace Go.Proofs.YtaedbnbeelkkcaaGreatDoor.Rd
open Go.Lib
theorem joinTail_cons (sep x : List UInt8) (r : List (List UInt8)) : joinTail sep (x :: r) = sep ++ join (x :: r) sep := by
  rw [join_cons]; simp [joinTail]
theorem splitK_cons (sep : List UInt8) (save k : Nat) (s : List UInt8) : ∃ x r, splitK sep save k s = x :: r := by
  cases k with
  | zero => exact ⟨s, [], rfl⟩
  | succ k =>
    unfold splitK
    split
    · exact ⟨s, [], rfl⟩
    · exact ⟨_, _, rfl⟩
theorem join_splitK (c : UInt8) : ∀ (k : Nat) (s : List UInt8), join (splitK [c] 0 k s) [c] = s
  | 0, s => join_one _ _
  | k + 1, s => by
    unfold splitK
    split
    · exact join_one _ _
    · rename_i h
      have hg := index_ge s [c]
      have hne : index s [c] ≠ -1 := by simpa using h
      obtain ⟨o, ho⟩ : ∃ o : Nat, index s [c] = o := ⟨(index s [c]).toNat, by omega⟩
      have hb : indexByte s c = o := by rw [← index_one]; exact ho
      obtain ⟨hs, _⟩ := indexByte_some hb
      rw [join_cons, ho]
      obtain ⟨x, r, hx⟩ := splitK_cons [c] 0 k (s.drop ((o : Int).toNat + [c].length))
      have ih := join_splitK c k (s.drop ((o : Int).toNat + [c].length))
      rw [hx] at ih ⊢
      rw [joinTail_cons, ih]
      obtain ⟨hl, hv⟩ := List.getElem?_eq_some_iff.1 hs
      have hd := List.drop_eq_getElem_cons hl
      rw [hv] at hd
      have ht := List.take_append_drop o s
      rw [hd] at ht
      simpa using ht
theorem join_splitB (c : UInt8) (k : Nat) (s : ByteArray) : join ((splitB ⟨#[c]⟩ 0 k s).map (·.data.toList)) [c] = s.data.toList := by
  rw [splitB_data]
  exact join_splitK c k _
theorem join_len {x sep : List UInt8} : ∀ {xs : List (List UInt8)}, x ∈ xs → x.length ≤ (join xs sep).length
  | y :: r, h => by
    rw [join_cons, List.length_append]
    rcases List.mem_cons.1 h with rfl | h
    · omega
    · have h1 : (sep ++ x).Sublist (r.map (sep ++ ·)).flatten := List.sublist_flatten_of_mem (List.mem_map_of_mem h)
      have h2 := h1.length_le
      rw [List.length_append] at h2
      unfold joinTail; omega
/-- the pieces of a text -/
def pieces (c : UInt8) (s : ByteArray) : List ByteArray := splitB ⟨#[c]⟩ 0 (countB s ⟨#[c]⟩) s
theorem pieces_join (c : UInt8) (s : ByteArray) : join ((pieces c s).map (·.data.toList)) [c] = s.data.toList := join_splitB c _ s
theorem pieces_len (c : UInt8) (s : ByteArray) : (pieces c s).length = countB s ⟨#[c]⟩ + 1 := splitB_all ⟨#[c]⟩ (by simp [ByteArray.size]) 0 _ s rfl
theorem pieces_le (c : UInt8) (s : ByteArray) : (pieces c s).length ≤ s.size + 1 := by
  rw [pieces_len]; have := countB_le ⟨#[c]⟩ (by simp [ByteArray.size]) s.size s (Nat.le_refl _); omega
theorem piece_size {c : UInt8} {s x : ByteArray} (h : x ∈ pieces c s) : x.size ≤ s.size := by
  rw [size_eq, size_eq, ← pieces_join c s]
  exact join_len (List.mem_map_of_mem h)
/-- the text of a clause: a line -/
def txC (c : List Int) : List UInt8 := (c.flatMap fun n => itoa n ++ [32]) ++ [48]
/-- the text of a formula -/
def txF (v : Int) (cs : List (List Int)) : List UInt8 := [112, 32, 99, 110, 102, 32] ++ itoa v ++ [32] ++ itoa (cs.length : Nat) ++ [10] ++ cs.flatMap fun c => txC c ++ [10]
theorem itoa_0 : itoa 0 = [48] := by decide +kernel
theorem words_join : ∀ c : List Int, join (c.map itoa ++ [[48]]) [32] = txC c
  | [] => by simp [join_one, txC]
  | n :: r => by
    have ih := words_join r
    simp only [List.map_cons, List.cons_append]
    rw [join_cons]
    have hx : ∃ x t, r.map itoa ++ [[48]] = x :: t := by cases r with
      | nil => exact ⟨_, _, rfl⟩
      | cons a b => exact ⟨_, _, rfl⟩
    obtain ⟨x, t, hx⟩ := hx
    rw [hx] at ih ⊢
    rw [joinTail_cons, ih]
    simp [txC]
theorem tail_lines : ∀ cs : List (List Int), joinTail [10] (cs.map txC) ++ [10] = [10] ++ cs.flatMap fun c => txC c ++ [10]
  | [] => rfl
  | c :: r => by
    have ih := tail_lines r
    simp only [joinTail, List.map_cons, List.flatten_cons, List.flatMap_cons, List.append_assoc] at ih ⊢
    rw [ih]
theorem head_join (v m : Int) : join [[112], [99, 110, 102], itoa v, itoa m] [32] = [112, 32, 99, 110, 102, 32] ++ itoa v ++ [32] ++ itoa m := by
  simp [join_cons, joinTail]
theorem lines_join (v : Int) (cs : List (List Int)) {h : List UInt8} (hh : h = [112, 32, 99, 110, 102, 32] ++ itoa v ++ [32] ++ itoa (cs.length : Nat)) : join (h :: cs.map txC) [10] ++ [10] = txF v cs := by
  rw [join_cons, List.append_assoc, tail_lines, hh]
  unfold txF
  simp only [List.append_assoc]
/-- what was read is written as it was, but for the last byte -/
theorem read_text {s : List UInt8} {v : Int} {cs : List (List Int)} {lines : List (List UInt8)} (hj : join lines [10] = trimSuffix s [10])
    (hl : lines = ([112, 32, 99, 110, 102, 32] ++ itoa v ++ [32] ++ itoa (cs.length : Nat)) :: cs.map txC) : txF v cs = s ∨ txF v cs = s ++ [10] := by
  have h := lines_join v cs rfl
  rw [← hl, hj] at h
  unfold trimSuffix at h
  split at h
  · rename_i hs
    left
    unfold hasSuffix at hs
    obtain ⟨t, rfl⟩ := List.isSuffixOf_iff_suffix.1 hs
    rw [← h]
    simp
  · exact .inr h.symm
end Go.Proofs.YtaedbnbeelkkcaaGreatDoor.Rd
