/- Plain feeds: chunks of a text, their bytes, what an inbox takes; no program in sight. Conditions: none. -/
import Derived.Test.YtfilkbfkhdaakaaGreatPlainA
set_option linter.unusedVariables false
set_option linter.unusedSimpArgs false
namespace Go.X
open Go.RowKit Go.Bl
structure ChunkD where
  feed : Int
  all : Int
  bytes : Int
  place : Int
  data : List Int
def zeroCh : ChunkD := ⟨0, 0, 0, 0, []⟩
def formC (c : ChunkD) : List Int := formN c.feed.toNat ++ (formN c.place.toNat ++ (formN c.all.toNat ++ (formN c.bytes.toNat ++ rawN c.data)))
/-- the chunk of bytes, an error's number -/
def parseC (xs : List Int) : ChunkD × Int :=
  let f := rNum xs (0, 0) 18446744073709551615
  let p := rNum xs f.2 131072
  let a := rNum xs p.2 131072
  if a.2.2 = 0 ∧ a.1 = 0 then (zeroCh, 51) else
  let n := rNum xs a.2 131072
  let d := rRaw xs n.2 4096
  if rDone xs d.2 ≠ 0 then (zeroCh, rDone xs d.2) else
  if p.1 ≥ a.1 then (zeroCh, 370) else (⟨f.1, a.1, n.1, p.1, d.1⟩, 0)
/-- a piece of a text -/
def piece (text : List Int) (size i : Nat) : List Int := (text.drop (i * size)).take (min (i * size + size) text.length - i * size)
/-- how many chunks -/
def allN (len size : Nat) : Nat := max 1 ((len + size - 1) / size)
def chunkAt (id : Int) (text : List Int) (size i : Nat) : ChunkD := ⟨id, allN text.length size, text.length, i, piece text size i⟩
def cutF (id : Int) (text : List Int) (size : Nat) : List (List Int) := (List.range (allN text.length size)).map fun i => formC (chunkAt id text size i)
theorem piece_len (text : List Int) (size i : Nat) : (piece text size i).length ≤ size := by
  simp only [piece, List.length_take, List.length_drop]
  omega
theorem cutF_len (id : Int) (text : List Int) (size : Nat) : (cutF id text size).length = allN text.length size := by simp [cutF]
theorem allN_pos (len size : Nat) : 1 ≤ allN len size := by unfold allN; omega
theorem allN_le {len size : Nat} (hs : 1 ≤ size) : allN len size ≤ len + 1 := by
  unfold allN
  have : (len + size - 1) / size ≤ len + 1 := by
    refine Nat.le_trans (Nat.div_le_div_right (c := size) (show len + size - 1 ≤ len * size + size by have := Nat.le_mul_of_pos_right len hs; omega)) ?_
    rw [show len * size + size = (len + 1) * size by rw [Nat.add_mul]; omega, Nat.mul_div_cancel _ hs]
    omega
  omega
/-- as the document counts them -/
theorem allN_ref {len size : Nat} (hs : 1 ≤ size) : allN len size = if len % size > 0 ∨ len / size = 0 then len / size + 1 else len / size := by
  have h1 := Nat.div_add_mod len size
  have h2 := Nat.mod_lt len hs
  generalize len / size = q at h1 ⊢
  generalize len % size = r at h1 h2 ⊢
  unfold allN
  by_cases c : r = 0
  · subst c
    have : (len + size - 1) / size = q := by
      rw [← h1, Nat.add_zero, show size * q + size - 1 = (size - 1) + size * q by omega, Nat.add_mul_div_left _ _ hs, Nat.div_eq_of_lt (by omega)]
      omega
    rw [this]
    by_cases c2 : q = 0
    · simp [c2]
    · rw [if_neg (by omega)]; omega
  · have : (len + size - 1) / size = q + 1 := by
      rw [← h1, show size * q + r + size - 1 = (r - 1) + size * (q + 1) by rw [Nat.mul_add]; omega, Nat.add_mul_div_left _ _ hs, Nat.div_eq_of_lt (by omega)]
      omega
    rw [this, if_pos (Or.inl (by omega))]
    omega
theorem piece_in {text : List Int} {size i : Nat} (hi : i < allN text.length size) (hs : 1 ≤ size) : i * size ≤ text.length := by
  unfold allN at hi
  rcases Nat.eq_zero_or_pos i with rfl | h0
  · omega
  · have h1 : i < (text.length + size - 1) / size := by omega
    have h2 := (Nat.le_div_iff_mul_le hs).1 (show i + 1 ≤ (text.length + size - 1) / size by omega)
    rw [Nat.add_mul] at h2
    omega
end Go.X
