/-
  lex.Line and the document's Line: both are the plain 'place' of what stands ahead of the clipped place; the world stays as it was.
-/
import Derived.Test.YtlkedogplmnpkaaGreatDoorAid
import Derived.Test.YtlkedogplmnpkaaGreatDoorShelf
import Derived.WalkKit
import Derived.WalkLawsBesides
import Derived.Lib.Hide
namespace Go.Proofs.YtlkedogplmnpkaaGreatDoor
open Go.RowKit

namespace Lx
theorem place_snoc (l : List UInt8) (c : UInt8) : place (l ++ [c]) = if c == 10 then ((place l).1 + 1, 1) else ((place l).1, (place l).2 + 1) := by
  simp [place, List.foldl_append]
theorem take_snoc (s : ByteArray) (k : Nat) (h : k < s.size) : s.data.toList.take (k + 1) = s.data.toList.take k ++ [s.data[k]'h] := by
  rw [List.take_succ_eq_append_getElem (by rw [len]; exact h)]; simp
theorem place_take (s : ByteArray) : ∀ k, k ≤ s.size → ((place (s.data.toList.take k)).2 : Int) = k - Lib.lastIdx s 10 k ∧ (place (s.data.toList.take k)).1 = 1 + (s.data.toList.take k).count 10
  | 0, _ => ⟨rfl, rfl⟩
  | k + 1, h => by
    have ih := place_take s k (by omega)
    have hk : k < s.data.size := h
    rw [take_snoc s k h, place_snoc, List.count_append]
    unfold Lib.lastIdx
    rw [getElem!_pos s.data k hk]
    by_cases hc : s.data[k] = 10
    · simp [hc, ih.2]; omega
    · have hn : ((s.data[k].toNat : Int) ≠ 10) := by
        intro e; apply hc; apply UInt8.toNat_inj.1; have : (10 : UInt8).toNat = 10 := rfl; omega
      simp [hc, hn, ih.1, ih.2]; omega
/-- Where a place is, clipped to the text. -/
def clip (p : Int) (n : Nat) : Nat := (min (max p 0) (n : Int)).toNat
theorem clip_le (p : Int) (n : Nat) : clip p n ≤ n := by unfold clip; omega
end Lx

theorem ret_two {a b c d : Int} (h : a = c) (h2 : b = d) : Ending.returned (.tuple #[.int .i64 a, .int .i64 b]) = .returned (.tuple #[.int .i64 c, .int .i64 d]) := by rw [h, h2]
theorem count_same (l : List UInt8) (c : UInt8) : (Lib.countByte l c) = l.count c := rfl

theorem lexLine_calls (s : ByteArray) (p : Int) (w : World) (hs : s.size ≤ 65536) :
    Calls Tryz.prog 10 #[.string s, .int .i64 p] w fun e w' => e = .returned (.tuple #[.int .i64 ((Lx.place (s.data.toList.take (Lx.clip p s.size))).1 : Int), .int .i64 ((Lx.place (s.data.toList.take (Lx.clip p s.size))).2 : Int)]) ∧ w = w' := by
  have hk := Lx.clip_le p s.size
  obtain ⟨k, hkk⟩ : ∃ k, Lx.clip p s.size = k := ⟨_, rfl⟩
  rw [hkk] at hk ⊢
  obtain ⟨q, hq⟩ : ∃ q, s.extract 0 (min (max p 0) (s.size : Int)).toNat = q := ⟨_, rfl⟩
  have hq' : s.extract 0 k = q := by rw [← hq, ← hkk]; rfl
  have hqs : q.size = k := by rw [← hq']; simp; omega
  have hqd : q.data.toList = s.data.toList.take k := by rw [← hq']; simp
  have hc := Lib.hid (Lx.place_take q k (by omega))
  rw [hqd, List.take_take, Nat.min_self] at hc
  have hl : Lib.lastIndexByte q 10 = Lib.lastIdx q 10 k := by unfold Lib.lastIndexByte; rw [hqs]
  have K1 := fun w : World => Tryz.strings_Count_one q 10 w
  rw [hqd] at K1
  have K2 := fun w : World => Tryz.strings_LastIndexByte q 10 (by omega) w
  rw [hl] at K2
  have k1 := Lib.hid K1
  have k2 := Lib.hid K2
  clear K1 K2 hl hkk hq'
  have hcl : (s.data.toList.take k).count 10 ≤ k := by
    have := List.count_le_length (a := (10 : UInt8)) (l := s.data.toList.take k)
    rw [List.length_take] at this; omega
  obtain ⟨d, hd⟩ : ∃ d, Lib.lastIdx q 10 k = d := ⟨_, rfl⟩
  have hd1 : -1 ≤ d ∧ d < k := by
    rw [← hd]
    rcases Lib.lastIdx_spec q 10 k with ⟨h1, _⟩ | ⟨i, hi, h1, _⟩ <;> omega
  rw [hd] at hc k2
  obtain ⟨n, hn⟩ : ∃ n, (s.data.toList.take k).count 10 = n := ⟨_, rfl⟩
  rw [hn] at hc hcl
  have hn' : Lib.countByte (List.take k s.data.toList) 10 = n := hn
  rw [hn'] at k1
  clear hn hn' hd hqd
  obtain ⟨x, hx⟩ : ∃ x, Lx.place (s.data.toList.take k) = x := ⟨_, rfl⟩
  rw [hx] at hc
  rw [hx]
  clear hx
  go_enter Tryz.func10, Tryz.ntmps10
  go_wp2_with (first | (go_at_call 20; refine (k1.out _).mono ?_; rintro e w' ⟨rfl, h⟩; subst h) | (go_at_call 21; refine (k2.out _).mono ?_; rintro e w' ⟨rfl, h⟩; subst h))
  go_ret2
  exact ⟨ret_two (by rw [hc.out.2]; simp) (by rw [hc.out.1]), rfl⟩
end Go.Proofs.YtlkedogplmnpkaaGreatDoor
