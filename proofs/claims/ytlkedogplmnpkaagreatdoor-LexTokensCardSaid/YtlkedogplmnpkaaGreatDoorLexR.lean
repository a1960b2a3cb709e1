/-
  The document's small functions: Letter, Digit, Words, in, Word: what each returns.
-/
import Derived.Test.YtlkedogplmnpkaaGreatDoorLexC
import Derived.Test.YtlkedogplmnpkaaGreatDoorLexG
namespace Go.Proofs.YtlkedogplmnpkaaGreatDoor
open Go.RowKit

theorem letter_nat (c : UInt8) : Lx.letter c = ((decide (65 ≤ c.toNat) && decide (c.toNat ≤ 90)) || (decide (97 ≤ c.toNat) && decide (c.toNat ≤ 122)) || decide (c.toNat = 95)) := by
  have h : (c == 95) = decide (c.toNat = 95) := by
    rw [Bool.eq_iff_iff]; simp [← UInt8.toNat_inj]
  unfold Lx.letter
  rw [h]
  simp [UInt8.le_iff_toNat_le]
theorem digit_nat (c : UInt8) : Lx.digit c = (decide (48 ≤ c.toNat) && decide (c.toNat ≤ 57)) := by
  unfold Lx.digit; simp [UInt8.le_iff_toNat_le]

theorem refLetter_calls (c : UInt8) (w : World) :
    Calls Tryz.prog 33 #[.int .u8 (c.toNat : Int)] w fun e w' => e = .returned (.bool (Lx.letter c)) ∧ w = w' := by
  have hl := Lib.hid (letter_nat c)
  have hlt := c.toNat_lt
  obtain ⟨m, hm⟩ : ∃ m, c.toNat = m := ⟨_, rfl⟩
  rw [hm] at hl hlt ⊢
  clear hm
  by_cases h1 : 65 ≤ m <;> by_cases h2 : m ≤ 90 <;> by_cases h3 : 97 ≤ m <;> by_cases h4 : m ≤ 122 <;> by_cases h5 : m = 95
  all_goals first | (exfalso; omega) | skip
  all_goals
    go_enter Tryz.func33, Tryz.ntmps33
    go_wp2
    go_ret
    exact ⟨ret_bool (by rw [hl.out]; simp [h1, h2, h3, h4, h5] <;> omega), rfl⟩

theorem refDigit_calls (c : UInt8) (w : World) :
    Calls Tryz.prog 34 #[.int .u8 (c.toNat : Int)] w fun e w' => e = .returned (.bool (Lx.digit c)) ∧ w = w' := by
  have hl := Lib.hid (digit_nat c)
  have hlt := c.toNat_lt
  obtain ⟨m, hm⟩ : ∃ m, c.toNat = m := ⟨_, rfl⟩
  rw [hm] at hl hlt ⊢
  clear hm
  by_cases h1 : 48 ≤ m <;> by_cases h2 : m ≤ 57
  all_goals first | (exfalso; omega) | skip
  all_goals
    go_enter Tryz.func34, Tryz.ntmps34
    go_wp2
    go_ret
    exact ⟨ret_bool (by rw [hl.out]; simp [h1, h2] <;> omega), rfl⟩
/-- The document's words, as texts. -/
def refWords : List ByteArray := [⟨#[110, 111, 100, 101]⟩, ⟨#[102, 108, 111, 119]⟩, ⟨#[114, 101, 116, 117, 114, 110, 115]⟩, ⟨#[118, 97, 114]⟩, ⟨#[108, 101, 116]⟩, ⟨#[116, 101, 108]⟩, ⟨#[105, 110, 116]⟩, ⟨#[98, 111, 111, 108]⟩, ⟨#[114, 97, 116, 101]⟩, ⟨#[100, 117, 101]⟩, ⟨#[105, 102]⟩, ⟨#[116, 104, 101, 110]⟩, ⟨#[101, 108, 115, 101]⟩, ⟨#[97, 110, 100]⟩, ⟨#[111, 114]⟩, ⟨#[110, 111, 116]⟩, ⟨#[116, 114, 117, 101]⟩, ⟨#[102, 97, 108, 115, 101]⟩, ⟨#[102, 98, 121]⟩, ⟨#[116, 97, 105, 108]⟩]
theorem refWords_plain : refWords.map (fun b => b.data.toList) = Lx.words := rfl
theorem any_contains (ws : List (List UInt8)) (l : List UInt8) : ws.any (· == l) = ws.contains l := by
  rw [List.contains_eq_any_beq]
  congr 1
  funext x
  rw [Bool.eq_iff_iff, beq_iff_eq, beq_iff_eq]; exact ⟨Eq.symm, Eq.symm⟩
theorem refWords_any (s : ByteArray) : refWords.any (fun b => b.data.toList == s.data.toList) = Lx.word s.data.toList := by
  have h : refWords.any (fun b => b.data.toList == s.data.toList) = (refWords.map (fun b => b.data.toList)).any (· == s.data.toList) := by rw [List.any_map]; rfl
  rw [h, refWords_plain, any_contains]
  rfl
def refCells : Array Value := #[.string ⟨#[110, 111, 100, 101]⟩, .string ⟨#[102, 108, 111, 119]⟩, .string ⟨#[114, 101, 116, 117, 114, 110, 115]⟩, .string ⟨#[118, 97, 114]⟩, .string ⟨#[108, 101, 116]⟩, .string ⟨#[116, 101, 108]⟩, .string ⟨#[105, 110, 116]⟩, .string ⟨#[98, 111, 111, 108]⟩, .string ⟨#[114, 97, 116, 101]⟩, .string ⟨#[100, 117, 101]⟩, .string ⟨#[105, 102]⟩, .string ⟨#[116, 104, 101, 110]⟩, .string ⟨#[101, 108, 115, 101]⟩, .string ⟨#[97, 110, 100]⟩, .string ⟨#[111, 114]⟩, .string ⟨#[110, 111, 116]⟩, .string ⟨#[116, 114, 117, 101]⟩, .string ⟨#[102, 97, 108, 115, 101]⟩, .string ⟨#[102, 98, 121]⟩, .string ⟨#[116, 97, 105, 108]⟩]

theorem refIn_calls (g n : Nat) (ls : List ByteArray) (hl : ls.length = n) (s : ByteArray) (w : World) (hc : ∀ j (h : j < ls.length), w.cell? ⟨g, j, none⟩ = some (.string ls[j])) (hn : n ≤ 1000) :
    Calls Tryz.prog 52 #[.slice (some ⟨g, 0, none⟩) n n, .string s] w fun e w' => e = .returned (.bool (ls.any (fun b => b.data.toList == s.data.toList))) ∧ w = w' := by
  go_enter Tryz.func52, Tryz.ntmps52
  go_wp2
  go_loopw [5] (fun i wr => wr = w ∧ ∃ k : Nat, i = .int .i64 k ∧ k ≤ n ∧ Hid (ls.any (fun b => b.data.toList == s.data.toList) = (ls.drop k).any (fun b => b.data.toList == s.data.toList)))
    (fun i _ => n - (intOf i).toNat)
  case atStart => exact ⟨rfl, 0, rfl, Nat.zero_le _, Lib.hid (by rw [List.drop_zero])⟩
  case round =>
    obtain ⟨rfl, k, rfl, hk, hr⟩ := hrel
    by_cases hlt : k < n
    · have hk2 : k < ls.length := by omega
      have hd : Hid ((ls.drop k).any (fun b => b.data.toList == s.data.toList) = (ls[k].data.toList == s.data.toList || (ls.drop (k + 1)).any (fun b => b.data.toList == s.data.toList))) := Lib.hid (by
        rw [List.drop_eq_getElem_cons hk2, List.any_cons])
      have hm : Hid (n - (k + 1) < n - k) := Lib.hid (by omega)
      go_wp2
      · go_ret
        have he : ls[k].data.toList = s.data.toList := by rw [← Lib.toList_data, ← Lib.toList_data]; exact beq_iff_eq.1 (by assumption)
        exact ⟨ret_bool (by rw [hr.out, hd.out, he]; simp), rfl⟩
      · have he : (ls[k].data.toList == s.data.toList) = false := by rw [← Lib.toList_data, ← Lib.toList_data]; first | assumption | simpa using ‹_›
        refine ⟨⟨trivial, k + 1, by simp, by omega, Lib.hid (by rw [hr.out, hd.out, he, Bool.false_or])⟩, ?_⟩
        have := hm.out
        simp [intOf]; omega
    · obtain rfl : k = n := by omega
      have hd : Hid (ls.any (fun b => b.data.toList == s.data.toList) = false) := Lib.hid (by rw [hr.out, List.drop_of_length_le (by omega)]; rfl)
      go_wp2
      go_ret
      exact ⟨ret_bool (by rw [hd.out]), rfl⟩

theorem refWords_calls (w : World) :
    Calls Tryz.prog 53 #[] w fun e w' => e = .returned (.slice (some ⟨w.heap.size, 0, none⟩) 20 20) ∧ w' = w.alloc (.cells refCells 9) := by
  go_enter Tryz.func53, Tryz.ntmps53
  go_wp2
  go_ret
  exact ⟨rfl, rfl⟩

theorem refWord_calls (s : ByteArray) (w : World) :
    Calls Tryz.prog 35 #[.string s] w fun e w' => e = .returned (.bool (Lx.word s.data.toList)) ∧ Below w.heap.size w w' := by
  have hc : ∀ j (h : j < refWords.length), (w.alloc (.cells refCells 9)).cell? ⟨w.heap.size, j, none⟩ = some (.string refWords[j]) := by
    intro j h
    rw [World.cell?_alloc_at _ _ _ _ (by rfl)]
    have : j < 20 := h
    rcases j with _ | _ | _ | _ | _ | _ | _ | _ | _ | _ | _ | _ | _ | _ | _ | _ | _ | _ | _ | _ | j
    all_goals first | rfl | omega
  have K := refIn_calls w.heap.size 20 refWords rfl s _ hc (by decide)
  rw [refWords_any] at K
  obtain ⟨b, hbb⟩ : ∃ b, Lx.word s.data.toList = b := ⟨_, rfl⟩
  rw [hbb] at K ⊢
  clear hbb
  have K := Lib.hid K
  have hb : Hid (Below w.heap.size w (w.alloc (.cells refCells 9))) := Lib.hid ((Below.refl _ _).alloc (Nat.le_refl _) _)
  clear hc
  go_enter Tryz.func35, Tryz.ntmps35
  go_wp2_with (first | (go_at_call 53; refine (refWords_calls _).mono ?_; rintro e w' ⟨rfl, rfl⟩) | (go_at_call 52; refine K.out.mono ?_; rintro e w' ⟨rfl, rfl⟩))
  go_ret
  exact ⟨rfl, hb.out⟩
end Go.Proofs.YtlkedogplmnpkaaGreatDoor
