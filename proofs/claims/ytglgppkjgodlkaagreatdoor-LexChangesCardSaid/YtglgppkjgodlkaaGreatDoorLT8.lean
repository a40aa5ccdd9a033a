/- Edits of a text, undone and in either order. No program in sight. Conditions: none. -/
import Derived.Test.YtglgppkjgodlkaaGreatDoorMA
namespace Go.Proofs.YtglgppkjgodlkaaGreatDoor.Lex
set_option linter.unusedVariables false
set_option linter.unusedSimpArgs false

/-- a text in which c bytes from p on are replaced by s -/
def editL (l : Bytes) (p c : Nat) (s : Bytes) : Bytes := l.take p ++ s ++ l.drop (p + c)
theorem edit_mid (X Y Z E : Bytes) : editL (X ++ (Y ++ Z)) X.length Y.length E = X ++ (E ++ Z) := by
  unfold editL
  rw [List.take_left, ← List.append_assoc X Y Z, ← List.length_append, List.drop_left, List.append_assoc]
theorem parts3 (A : Bytes) (p q : Nat) (h : p + q ≤ A.length) : ∃ X Y Z, A = X ++ (Y ++ Z) ∧ X.length = p ∧ Y.length = q ∧ Y = (A.drop p).take q :=
  ⟨A.take p, (A.drop p).take q, (A.drop p).drop q, by rw [List.take_append_drop, List.take_append_drop], by rw [List.length_take]; omega, by rw [List.length_take, List.length_drop]; omega, rfl⟩
theorem edit_undo (A E : Bytes) (p q : Nat) (h : p + q ≤ A.length) : editL (editL A p q E) p E.length ((A.drop p).take q) = A := by
  obtain ⟨X, Y, Z, hA, rfl, rfl, hY⟩ := parts3 A p q h
  rw [← hY]
  subst hA
  rw [edit_mid, edit_mid]
theorem edit_swap (A E F : Bytes) (p q r t : Nat) (h : p + q ≤ r) (h2 : r + t ≤ A.length) : editL (editL A p q E) (r - q + E.length) t F = editL (editL A r t F) p q E := by
  obtain ⟨X, Y, Z, hA, rfl, rfl, _⟩ := parts3 A p q (by omega)
  subst hA
  rw [List.length_append, List.length_append] at h2
  obtain ⟨U, V, T, hZ, hu, rfl, _⟩ := parts3 Z (r - (X.length + Y.length)) t (by omega)
  subst hZ
  obtain rfl : r = X.length + Y.length + U.length := by omega
  rw [edit_mid]
  have e1 : X ++ (E ++ (U ++ (V ++ T))) = (X ++ E ++ U) ++ (V ++ T) := by simp
  have e2 : X.length + Y.length + U.length - Y.length + E.length = (X ++ E ++ U).length := by simp; omega
  have e3 : X ++ (Y ++ (U ++ (V ++ T))) = (X ++ Y ++ U) ++ (V ++ T) := by simp
  have e4 : X.length + Y.length + U.length = (X ++ Y ++ U).length := by simp; omega
  rw [e1, e2, edit_mid, e3, e4, edit_mid]
  have e5 : (X ++ Y ++ U) ++ (F ++ T) = X ++ (Y ++ (U ++ (F ++ T))) := by simp
  rw [e5, edit_mid]
  simp
theorem edit_len (A E : Bytes) (p q : Nat) (h : p + q ≤ A.length) : (editL A p q E).length = A.length - q + E.length := by
  unfold editL
  rw [List.length_append, List.length_append, List.length_take, List.length_drop]
  omega
end Go.Proofs.YtglgppkjgodlkaaGreatDoor.Lex
