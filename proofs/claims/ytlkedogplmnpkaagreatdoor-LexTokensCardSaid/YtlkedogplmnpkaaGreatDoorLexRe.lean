/- 
  The document's list of signs, the longer ones first: the first that stands in front is the lexer's own sign.
-/
import Derived.Test.YtlkedogplmnpkaaGreatDoorLexRd
namespace Go.Proofs.YtlkedogplmnpkaaGreatDoor
open Go.RowKit
namespace Lx
def signs : List (List UInt8) := [[42, 94], [47, 94], [126, 62], [58, 58], [60, 62], [60, 61], [62, 61], [40], [41], [59], [58], [44], [61], [60], [62], [43], [45], [42], [47], [37]]
theorem sign_find_one (c : UInt8) : (signs.find? (fun x => x.isPrefixOf [c])) = if sign [c] = 0 then none else some [c] := by
  have h : ∀ v : Fin 256, (signs.find? (fun x => x.isPrefixOf [UInt8.ofNat v.val])) = if sign [UInt8.ofNat v.val] = 0 then none else some [UInt8.ofNat v.val] := by decide +kernel
  have := h ⟨c.toNat, c.toNat_lt⟩
  simpa using this
theorem sign_find_94 (c : UInt8) : (signs.find? (fun x => x.isPrefixOf [c, 94])) = if sign [c, 94] = 0 then none else some ([c, 94].take (sign [c, 94])) := by
  have h : ∀ v : Fin 256, (signs.find? (fun x => x.isPrefixOf [UInt8.ofNat v.val, 94])) = if sign [UInt8.ofNat v.val, 94] = 0 then none else some ([UInt8.ofNat v.val, 94].take (sign [UInt8.ofNat v.val, 94])) := by decide +kernel
  have := h ⟨c.toNat, c.toNat_lt⟩
  simpa using this
theorem sign_find_62 (c : UInt8) : (signs.find? (fun x => x.isPrefixOf [c, 62])) = if sign [c, 62] = 0 then none else some ([c, 62].take (sign [c, 62])) := by
  have h : ∀ v : Fin 256, (signs.find? (fun x => x.isPrefixOf [UInt8.ofNat v.val, 62])) = if sign [UInt8.ofNat v.val, 62] = 0 then none else some ([UInt8.ofNat v.val, 62].take (sign [UInt8.ofNat v.val, 62])) := by decide +kernel
  have := h ⟨c.toNat, c.toNat_lt⟩
  simpa using this
theorem sign_find_58 (c : UInt8) : (signs.find? (fun x => x.isPrefixOf [c, 58])) = if sign [c, 58] = 0 then none else some ([c, 58].take (sign [c, 58])) := by
  have h : ∀ v : Fin 256, (signs.find? (fun x => x.isPrefixOf [UInt8.ofNat v.val, 58])) = if sign [UInt8.ofNat v.val, 58] = 0 then none else some ([UInt8.ofNat v.val, 58].take (sign [UInt8.ofNat v.val, 58])) := by decide +kernel
  have := h ⟨c.toNat, c.toNat_lt⟩
  simpa using this
theorem sign_find_61 (c : UInt8) : (signs.find? (fun x => x.isPrefixOf [c, 61])) = if sign [c, 61] = 0 then none else some ([c, 61].take (sign [c, 61])) := by
  have h : ∀ v : Fin 256, (signs.find? (fun x => x.isPrefixOf [UInt8.ofNat v.val, 61])) = if sign [UInt8.ofNat v.val, 61] = 0 then none else some ([UInt8.ofNat v.val, 61].take (sign [UInt8.ofNat v.val, 61])) := by decide +kernel
  have := h ⟨c.toNat, c.toNat_lt⟩
  simpa using this
theorem prefix_two (a b c d : UInt8) (r : List UInt8) (h : b ≠ d) : [a, b].isPrefixOf (c :: d :: r) = false := by
  have : (b == d) = false := by simpa using h
  simp [List.isPrefixOf, this]
theorem sign_find_other (c d : UInt8) (h1 : d ≠ 94) (h2 : d ≠ 62) (h3 : d ≠ 58) (h4 : d ≠ 61) : (signs.find? (fun x => x.isPrefixOf [c, d])) = signs.find? (fun x => x.isPrefixOf [c]) := by
  unfold signs
  have f1 : ((94 : UInt8) == d) = false := by simpa using h1.symm
  have f2 : ((62 : UInt8) == d) = false := by simpa using h2.symm
  have f3 : ((58 : UInt8) == d) = false := by simpa using h3.symm
  have f4 : ((61 : UInt8) == d) = false := by simpa using h4.symm
  simp [List.find?_cons, List.isPrefixOf, f1, f2, f3, f4]
theorem sign_other (c d : UInt8) (h1 : d ≠ 94) (h2 : d ≠ 62) (h3 : d ≠ 58) (h4 : d ≠ 61) : sign [c, d] = sign [c] := by
  have e : ∀ x, d ≠ x → second [d] x = second [] x := fun x h => by unfold second; simp [h]
  simp only [sign]
  rw [e 94 h1, e 62 h2, e 58 h3, e 61 h4]
theorem sign_find_two (c d : UInt8) : (signs.find? (fun x => x.isPrefixOf [c, d])) = if sign [c, d] = 0 then none else some ([c, d].take (sign [c, d])) := by
  by_cases h1 : d = 94
  · subst h1; exact sign_find_94 c
  by_cases h2 : d = 62
  · subst h2; exact sign_find_62 c
  by_cases h3 : d = 58
  · subst h3; exact sign_find_58 c
  by_cases h4 : d = 61
  · subst h4; exact sign_find_61 c
  rw [sign_find_other c d h1 h2 h3 h4, sign_other c d h1 h2 h3 h4, sign_find_one]
  have hle := sign_le [c]
  by_cases h0 : sign [c] = 0
  · rw [if_pos h0, if_pos h0]
  · rw [if_neg h0, if_neg h0]
    have : sign [c] = 1 := by simp at hle; omega
    rw [this]; rfl
/-- The first sign of the list that stands in front is the lexer's own. -/
theorem sign_find (l : List UInt8) : (signs.find? (fun x => x.isPrefixOf l)) = if sign l = 0 then none else some (l.take (sign l)) := by
  match l with
  | [] => rfl
  | [c] =>
    rw [sign_find_one]
    have hle := sign_le [c]
    by_cases h0 : sign [c] = 0
    · rw [if_pos h0, if_pos h0]
    · rw [if_neg h0, if_neg h0]
      have : sign [c] = 1 := by simp at hle; omega
      rw [this]; rfl
  | c :: d :: r =>
    have e1 : (signs.find? (fun x => x.isPrefixOf (c :: d :: r))) = signs.find? (fun x => x.isPrefixOf [c, d]) := by
      simp [signs, List.find?_cons, List.isPrefixOf]
    have e2 : sign (c :: d :: r) = sign [c, d] := rfl
    have hle := sign_le [c, d]
    rw [e1, e2, sign_find_two]
    by_cases h0 : sign [c, d] = 0
    · rw [if_pos h0, if_pos h0]
    · rw [if_neg h0, if_neg h0]
      have : sign [c, d] = 1 ∨ sign [c, d] = 2 := by simp at hle; omega
      rcases this with h | h <;> rw [h] <;> rfl
end Lx
end Go.Proofs.YtlkedogplmnpkaaGreatDoor
