/-
  sign of package lex, and the closure in it: how many bytes the sign at the front has.
-/
import Derived.Test.YtlkedogplmnpkaaGreatDoorLexE
namespace Go.Proofs.YtlkedogplmnpkaaGreatDoor
open Go.RowKit

theorem indexByte_one (x y : UInt8) : Lib.indexByte [x] y = if x == y then 0 else -1 := by
  unfold Lib.indexByte
  by_cases h : x = y
  · simp [h]
  · simp [h, Lib.indexByte]
theorem second_or (r : List UInt8) (x : UInt8) : Lx.second r x = 1 ∨ Lx.second r x = 2 := by
  unfold Lx.second
  split
  · exact .inr rfl
  · exact .inl rfl

theorem second_calls (x : UInt8) (s : ByteArray) (n : Nat) (hn : Hid (Lx.second (s.data.toList.drop 1) x = n)) (a : Addr) (w : World) (hc : w.cell? a = some (.string s)) :
    Calls Tryz.prog 50 #[.string ⟨#[x]⟩, .pointer (some a)] w fun e w' => e = .returned (.int .i64 n) ∧ w = w' := by
  by_cases h1 : 1 < s.size
  · have hd := Lib.hid (Lx.drop_cons s 1 h1)
    by_cases hx : x = s[1]
    · have hr : Hid (n = 2) := Lib.hid (by rw [← hn.out, hd.out, hx]; simp [Lx.second])
      have K := Lib.hid (fun w : World => (show Calls Tryz.prog 51 #[.string ⟨#[x]⟩, .int .u8 (s[1].toNat : Int)] w fun e w' => e = .returned (.int .i64 0) ∧ w = w' by
        refine (Tryz.strings_IndexByte _ _ w).mono ?_
        rintro e w' ⟨rfl, rfl⟩
        refine ⟨ret_i64 ?_, rfl⟩
        rw [hx]
        show Lib.indexByte [s[1]] _ = 0
        rw [indexByte_one]
        simp))
      clear hx
      go_enter Tryz.func50, Tryz.ntmps50
      go_wp2_with (go_at_call 51; refine (K.out _).mono ?_; rintro e w' ⟨rfl, rfl⟩)
      go_ret
      exact ⟨ret_i64 (by rw [hr.out]; rfl), rfl⟩
    · have hr : Hid (n = 1) := Lib.hid (by rw [← hn.out, hd.out]; simp [Lx.second, Ne.symm hx])
      have K := Lib.hid (fun w : World => (show Calls Tryz.prog 51 #[.string ⟨#[x]⟩, .int .u8 (s[1].toNat : Int)] w fun e w' => e = .returned (.int .i64 (-1)) ∧ w = w' by
        refine (Tryz.strings_IndexByte _ _ w).mono ?_
        rintro e w' ⟨rfl, rfl⟩
        refine ⟨ret_i64 ?_, rfl⟩
        show Lib.indexByte [x] _ = -1
        rw [indexByte_one]
        simp [hx]))
      clear hx
      go_enter Tryz.func50, Tryz.ntmps50
      go_wp2_with (go_at_call 51; refine (K.out _).mono ?_; rintro e w' ⟨rfl, rfl⟩)
      go_ret
      exact ⟨ret_i64 (by rw [hr.out]; rfl), rfl⟩
  · have hr : Hid (n = 1) := Lib.hid (by rw [← hn.out, Lx.drop_end s 1 (by omega)]; simp [Lx.second])
    go_enter Tryz.func50, Tryz.ntmps50
    go_wp2
    go_ret
    exact ⟨ret_i64 (by rw [hr.out]; rfl), rfl⟩

theorem makes (fn : Fn) (first cap : Array Value) (w : World) : (Instr.makeFunc fn first cap).run Tryz.prog w = .ok (.func fn first cap) w := rfl
def SignSays (s : ByteArray) (w : World) : Prop :=
    Calls Tryz.prog 32 #[.string s] w fun e w' => e = .returned (.int .i64 (Lx.sign s.data.toList : Nat)) ∧ Below w.heap.size w w'
theorem boxed (w : World) (v : Value) (t : TypeId) : Below w.heap.size w (w.alloc (.cells #[v] t)) := (Below.refl _ _).alloc (Nat.le_refl _) _
theorem sign_cons (s : ByteArray) (h0 : 0 < s.size) : s.data.toList = s[0] :: s.data.toList.drop 1 := by
  have e := Lx.drop_cons s 0 h0
  rw [List.drop_zero] at e
  exact e

theorem sign_42 (s : ByteArray) (w : World) (h0 : 0 < s.size) (hv : s[0] = 42) : SignSays s w := by
  unfold SignSays
  have hmf := makes
  have hcell : (w.alloc (.cells #[.string s] 9)).cell? ⟨w.heap.size, 0, none⟩ = some (.string s) := by simp
  have hcons := sign_cons s h0
  have hx : (s[0].toNat : Int) = 42 := by rw [hv]; rfl
  obtain ⟨n94, hn94⟩ : ∃ n, Hid (Lx.second (s.data.toList.drop 1) 94 = n) := ⟨_, Lib.hid rfl⟩
  have hsig : Hid (Lx.sign s.data.toList = n94) := Lib.hid (by rw [hcons, hv, ← hn94.out]; rfl)
  clear hcons hv
  go_enter Tryz.func32, Tryz.ntmps32
  go_wp2_with (first | (go_at_call 50; with_reducible refine (second_calls 94 s _ hn94 _ _ hcell).mono ?_; rintro e w' ⟨rfl, rfl⟩))
  go_ret
  exact ⟨ret_i64 (by rw [hsig.out]; try rfl), boxed w _ _⟩

theorem sign_47 (s : ByteArray) (w : World) (h0 : 0 < s.size) (hv : s[0] = 47) : SignSays s w := by
  unfold SignSays
  have hmf := makes
  have hcell : (w.alloc (.cells #[.string s] 9)).cell? ⟨w.heap.size, 0, none⟩ = some (.string s) := by simp
  have hcons := sign_cons s h0
  have hx : (s[0].toNat : Int) = 47 := by rw [hv]; rfl
  obtain ⟨n94, hn94⟩ : ∃ n, Hid (Lx.second (s.data.toList.drop 1) 94 = n) := ⟨_, Lib.hid rfl⟩
  have hsig : Hid (Lx.sign s.data.toList = n94) := Lib.hid (by rw [hcons, hv, ← hn94.out]; rfl)
  clear hcons hv
  go_enter Tryz.func32, Tryz.ntmps32
  go_wp2_with (first | (go_at_call 50; with_reducible refine (second_calls 94 s _ hn94 _ _ hcell).mono ?_; rintro e w' ⟨rfl, rfl⟩))
  go_ret
  exact ⟨ret_i64 (by rw [hsig.out]; try rfl), boxed w _ _⟩

theorem sign_58 (s : ByteArray) (w : World) (h0 : 0 < s.size) (hv : s[0] = 58) : SignSays s w := by
  unfold SignSays
  have hmf := makes
  have hcell : (w.alloc (.cells #[.string s] 9)).cell? ⟨w.heap.size, 0, none⟩ = some (.string s) := by simp
  have hcons := sign_cons s h0
  have hx : (s[0].toNat : Int) = 58 := by rw [hv]; rfl
  obtain ⟨n58, hn58⟩ : ∃ n, Hid (Lx.second (s.data.toList.drop 1) 58 = n) := ⟨_, Lib.hid rfl⟩
  have hsig : Hid (Lx.sign s.data.toList = n58) := Lib.hid (by rw [hcons, hv, ← hn58.out]; rfl)
  clear hcons hv
  go_enter Tryz.func32, Tryz.ntmps32
  go_wp2_with (first | (go_at_call 50; with_reducible refine (second_calls 58 s _ hn58 _ _ hcell).mono ?_; rintro e w' ⟨rfl, rfl⟩))
  go_ret
  exact ⟨ret_i64 (by rw [hsig.out]; try rfl), boxed w _ _⟩

theorem sign_62 (s : ByteArray) (w : World) (h0 : 0 < s.size) (hv : s[0] = 62) : SignSays s w := by
  unfold SignSays
  have hmf := makes
  have hcell : (w.alloc (.cells #[.string s] 9)).cell? ⟨w.heap.size, 0, none⟩ = some (.string s) := by simp
  have hcons := sign_cons s h0
  have hx : (s[0].toNat : Int) = 62 := by rw [hv]; rfl
  obtain ⟨n61, hn61⟩ : ∃ n, Hid (Lx.second (s.data.toList.drop 1) 61 = n) := ⟨_, Lib.hid rfl⟩
  have hsig : Hid (Lx.sign s.data.toList = n61) := Lib.hid (by rw [hcons, hv, ← hn61.out]; rfl)
  clear hcons hv
  go_enter Tryz.func32, Tryz.ntmps32
  go_wp2_with (first | (go_at_call 50; with_reducible refine (second_calls 61 s _ hn61 _ _ hcell).mono ?_; rintro e w' ⟨rfl, rfl⟩))
  go_ret
  exact ⟨ret_i64 (by rw [hsig.out]; try rfl), boxed w _ _⟩

theorem sign_40 (s : ByteArray) (w : World) (h0 : 0 < s.size) (hv : s[0] = 40) : SignSays s w := by
  unfold SignSays
  have hmf := makes
  have hcell : (w.alloc (.cells #[.string s] 9)).cell? ⟨w.heap.size, 0, none⟩ = some (.string s) := by simp
  have hcons := sign_cons s h0
  have hx : (s[0].toNat : Int) = 40 := by rw [hv]; rfl
  have hsig : Hid (Lx.sign s.data.toList = 1) := Lib.hid (by rw [hcons, hv]; rfl)
  clear hcons hv
  go_enter Tryz.func32, Tryz.ntmps32
  go_wp2
  go_ret
  exact ⟨ret_i64 (by rw [hsig.out]; try rfl), boxed w _ _⟩

theorem sign_41 (s : ByteArray) (w : World) (h0 : 0 < s.size) (hv : s[0] = 41) : SignSays s w := by
  unfold SignSays
  have hmf := makes
  have hcell : (w.alloc (.cells #[.string s] 9)).cell? ⟨w.heap.size, 0, none⟩ = some (.string s) := by simp
  have hcons := sign_cons s h0
  have hx : (s[0].toNat : Int) = 41 := by rw [hv]; rfl
  have hsig : Hid (Lx.sign s.data.toList = 1) := Lib.hid (by rw [hcons, hv]; rfl)
  clear hcons hv
  go_enter Tryz.func32, Tryz.ntmps32
  go_wp2
  go_ret
  exact ⟨ret_i64 (by rw [hsig.out]; try rfl), boxed w _ _⟩

theorem sign_59 (s : ByteArray) (w : World) (h0 : 0 < s.size) (hv : s[0] = 59) : SignSays s w := by
  unfold SignSays
  have hmf := makes
  have hcell : (w.alloc (.cells #[.string s] 9)).cell? ⟨w.heap.size, 0, none⟩ = some (.string s) := by simp
  have hcons := sign_cons s h0
  have hx : (s[0].toNat : Int) = 59 := by rw [hv]; rfl
  have hsig : Hid (Lx.sign s.data.toList = 1) := Lib.hid (by rw [hcons, hv]; rfl)
  clear hcons hv
  go_enter Tryz.func32, Tryz.ntmps32
  go_wp2
  go_ret
  exact ⟨ret_i64 (by rw [hsig.out]; try rfl), boxed w _ _⟩

theorem sign_44 (s : ByteArray) (w : World) (h0 : 0 < s.size) (hv : s[0] = 44) : SignSays s w := by
  unfold SignSays
  have hmf := makes
  have hcell : (w.alloc (.cells #[.string s] 9)).cell? ⟨w.heap.size, 0, none⟩ = some (.string s) := by simp
  have hcons := sign_cons s h0
  have hx : (s[0].toNat : Int) = 44 := by rw [hv]; rfl
  have hsig : Hid (Lx.sign s.data.toList = 1) := Lib.hid (by rw [hcons, hv]; rfl)
  clear hcons hv
  go_enter Tryz.func32, Tryz.ntmps32
  go_wp2
  go_ret
  exact ⟨ret_i64 (by rw [hsig.out]; try rfl), boxed w _ _⟩

theorem sign_61 (s : ByteArray) (w : World) (h0 : 0 < s.size) (hv : s[0] = 61) : SignSays s w := by
  unfold SignSays
  have hmf := makes
  have hcell : (w.alloc (.cells #[.string s] 9)).cell? ⟨w.heap.size, 0, none⟩ = some (.string s) := by simp
  have hcons := sign_cons s h0
  have hx : (s[0].toNat : Int) = 61 := by rw [hv]; rfl
  have hsig : Hid (Lx.sign s.data.toList = 1) := Lib.hid (by rw [hcons, hv]; rfl)
  clear hcons hv
  go_enter Tryz.func32, Tryz.ntmps32
  go_wp2
  go_ret
  exact ⟨ret_i64 (by rw [hsig.out]; try rfl), boxed w _ _⟩

theorem sign_43 (s : ByteArray) (w : World) (h0 : 0 < s.size) (hv : s[0] = 43) : SignSays s w := by
  unfold SignSays
  have hmf := makes
  have hcell : (w.alloc (.cells #[.string s] 9)).cell? ⟨w.heap.size, 0, none⟩ = some (.string s) := by simp
  have hcons := sign_cons s h0
  have hx : (s[0].toNat : Int) = 43 := by rw [hv]; rfl
  have hsig : Hid (Lx.sign s.data.toList = 1) := Lib.hid (by rw [hcons, hv]; rfl)
  clear hcons hv
  go_enter Tryz.func32, Tryz.ntmps32
  go_wp2
  go_ret
  exact ⟨ret_i64 (by rw [hsig.out]; try rfl), boxed w _ _⟩

theorem sign_45 (s : ByteArray) (w : World) (h0 : 0 < s.size) (hv : s[0] = 45) : SignSays s w := by
  unfold SignSays
  have hmf := makes
  have hcell : (w.alloc (.cells #[.string s] 9)).cell? ⟨w.heap.size, 0, none⟩ = some (.string s) := by simp
  have hcons := sign_cons s h0
  have hx : (s[0].toNat : Int) = 45 := by rw [hv]; rfl
  have hsig : Hid (Lx.sign s.data.toList = 1) := Lib.hid (by rw [hcons, hv]; rfl)
  clear hcons hv
  go_enter Tryz.func32, Tryz.ntmps32
  go_wp2
  go_ret
  exact ⟨ret_i64 (by rw [hsig.out]; try rfl), boxed w _ _⟩

theorem sign_37 (s : ByteArray) (w : World) (h0 : 0 < s.size) (hv : s[0] = 37) : SignSays s w := by
  unfold SignSays
  have hmf := makes
  have hcell : (w.alloc (.cells #[.string s] 9)).cell? ⟨w.heap.size, 0, none⟩ = some (.string s) := by simp
  have hcons := sign_cons s h0
  have hx : (s[0].toNat : Int) = 37 := by rw [hv]; rfl
  have hsig : Hid (Lx.sign s.data.toList = 1) := Lib.hid (by rw [hcons, hv]; rfl)
  clear hcons hv
  go_enter Tryz.func32, Tryz.ntmps32
  go_wp2
  go_ret
  exact ⟨ret_i64 (by rw [hsig.out]; try rfl), boxed w _ _⟩

theorem sign_126 (s : ByteArray) (w : World) (h0 : 0 < s.size) (hv : s[0] = 126) : SignSays s w := by
  unfold SignSays
  have hmf := makes
  have hcell : (w.alloc (.cells #[.string s] 9)).cell? ⟨w.heap.size, 0, none⟩ = some (.string s) := by simp
  have hcons := sign_cons s h0
  have hx : (s[0].toNat : Int) = 126 := by rw [hv]; rfl
  rcases second_or (s.data.toList.drop 1) 62 with h2 | h2
  · have hn62 : Hid (Lx.second (s.data.toList.drop 1) 62 = 1) := Lib.hid h2
    have hsig : Hid (Lx.sign s.data.toList = 0) := Lib.hid (by rw [hcons, hv]; show (if (Lx.second _ 62 == 2) = true then 2 else _) = _; rw [h2]; rfl)
    clear hcons hv h2
    go_enter Tryz.func32, Tryz.ntmps32
    go_wp2_with (first | (go_at_call 50; with_reducible refine (second_calls 62 s _ hn62 _ _ hcell).mono ?_; rintro e w' ⟨rfl, rfl⟩))
    go_ret
    exact ⟨ret_i64 (by rw [hsig.out]; try rfl), boxed w _ _⟩
  · have hn62 : Hid (Lx.second (s.data.toList.drop 1) 62 = 2) := Lib.hid h2
    have hsig : Hid (Lx.sign s.data.toList = 2) := Lib.hid (by rw [hcons, hv]; show (if (Lx.second _ 62 == 2) = true then 2 else _) = _; rw [h2]; rfl)
    clear hcons hv h2
    go_enter Tryz.func32, Tryz.ntmps32
    go_wp2_with (first | (go_at_call 50; with_reducible refine (second_calls 62 s _ hn62 _ _ hcell).mono ?_; rintro e w' ⟨rfl, rfl⟩))
    go_ret
    exact ⟨ret_i64 (by rw [hsig.out]; try rfl), boxed w _ _⟩

theorem sign_60 (s : ByteArray) (w : World) (h0 : 0 < s.size) (hv : s[0] = 60) : SignSays s w := by
  unfold SignSays
  have hmf := makes
  have hcell : (w.alloc (.cells #[.string s] 9)).cell? ⟨w.heap.size, 0, none⟩ = some (.string s) := by simp
  have hcons := sign_cons s h0
  have hx : (s[0].toNat : Int) = 60 := by rw [hv]; rfl
  rcases second_or (s.data.toList.drop 1) 62 with h2 | h2
  · have hn62 : Hid (Lx.second (s.data.toList.drop 1) 62 = 1) := Lib.hid h2
    obtain ⟨n61, hn61⟩ : ∃ n, Hid (Lx.second (s.data.toList.drop 1) 61 = n) := ⟨_, Lib.hid rfl⟩
    have hsig : Hid (Lx.sign s.data.toList = n61) := Lib.hid (by rw [hcons, hv, ← hn61.out]; show (if (Lx.second _ 62 == 2) = true then 2 else _) = _; rw [h2]; rfl)
    clear hcons hv h2
    go_enter Tryz.func32, Tryz.ntmps32
    go_wp2_with (first | (go_at_call 50; with_reducible refine (second_calls 62 s _ hn62 _ _ hcell).mono ?_; rintro e w' ⟨rfl, rfl⟩) | (go_at_call 50; with_reducible refine (second_calls 61 s _ hn61 _ _ hcell).mono ?_; rintro e w' ⟨rfl, rfl⟩))
    go_ret
    exact ⟨ret_i64 (by rw [hsig.out]; try rfl), boxed w _ _⟩
  · have hn62 : Hid (Lx.second (s.data.toList.drop 1) 62 = 2) := Lib.hid h2
    have hsig : Hid (Lx.sign s.data.toList = 2) := Lib.hid (by rw [hcons, hv]; show (if (Lx.second _ 62 == 2) = true then 2 else _) = _; rw [h2]; rfl)
    clear hcons hv h2
    go_enter Tryz.func32, Tryz.ntmps32
    go_wp2_with (first | (go_at_call 50; with_reducible refine (second_calls 62 s _ hn62 _ _ hcell).mono ?_; rintro e w' ⟨rfl, rfl⟩))
    go_ret
    exact ⟨ret_i64 (by rw [hsig.out]; try rfl), boxed w _ _⟩

theorem sign_none (s : ByteArray) (w : World) (h0 : 0 < s.size) (c126 : s[0] ≠ 126) (c42 : s[0] ≠ 42) (c47 : s[0] ≠ 47) (c58 : s[0] ≠ 58) (c60 : s[0] ≠ 60) (c62 : s[0] ≠ 62) (c40 : s[0] ≠ 40) (c41 : s[0] ≠ 41) (c59 : s[0] ≠ 59) (c44 : s[0] ≠ 44) (c61 : s[0] ≠ 61) (c43 : s[0] ≠ 43) (c45 : s[0] ≠ 45) (c37 : s[0] ≠ 37) : SignSays s w := by
  unfold SignSays
  have hmf := makes
  have hcons := sign_cons s h0
  have hsig : Hid (Lx.sign s.data.toList = 0) := Lib.hid (by rw [hcons]; unfold Lx.sign; simp [c126, c42, c47, c58, c60, c62, c40, c41, c59, c44, c61, c43, c45, c37])
  have hne : ∀ m : UInt8, s[0] ≠ m → ((s[0].toNat : Int) == (m.toNat : Int)) = false := fun m h => by
    rw [beq_eq_false_iff_ne]
    intro e
    exact h (UInt8.toNat_inj.1 (by omega))
  have b126 : ((s[0].toNat : Int) == 126) = false := hne 126 c126
  have b42 : ((s[0].toNat : Int) == 42) = false := hne 42 c42
  have b47 : ((s[0].toNat : Int) == 47) = false := hne 47 c47
  have b58 : ((s[0].toNat : Int) == 58) = false := hne 58 c58
  have b60 : ((s[0].toNat : Int) == 60) = false := hne 60 c60
  have b62 : ((s[0].toNat : Int) == 62) = false := hne 62 c62
  have b40 : ((s[0].toNat : Int) == 40) = false := hne 40 c40
  have b41 : ((s[0].toNat : Int) == 41) = false := hne 41 c41
  have b59 : ((s[0].toNat : Int) == 59) = false := hne 59 c59
  have b44 : ((s[0].toNat : Int) == 44) = false := hne 44 c44
  have b61 : ((s[0].toNat : Int) == 61) = false := hne 61 c61
  have b43 : ((s[0].toNat : Int) == 43) = false := hne 43 c43
  have b45 : ((s[0].toNat : Int) == 45) = false := hne 45 c45
  have b37 : ((s[0].toNat : Int) == 37) = false := hne 37 c37
  clear hcons hne c126 c42 c47 c58 c60 c62 c40 c41 c59 c44 c61 c43 c45 c37
  go_enter Tryz.func32, Tryz.ntmps32
  go_wp2
  go_ret
  exact ⟨ret_i64 (by rw [hsig.out]; rfl), boxed w _ _⟩

theorem sign_calls (s : ByteArray) (w : World) (h0 : 0 < s.size) :
    Calls Tryz.prog 32 #[.string s] w fun e w' => e = .returned (.int .i64 (Lx.sign s.data.toList : Nat)) ∧ Below w.heap.size w w' := by
  by_cases c126 : s[0] = 126
  · exact sign_126 s w h0 c126
  by_cases c42 : s[0] = 42
  · exact sign_42 s w h0 c42
  by_cases c47 : s[0] = 47
  · exact sign_47 s w h0 c47
  by_cases c58 : s[0] = 58
  · exact sign_58 s w h0 c58
  by_cases c60 : s[0] = 60
  · exact sign_60 s w h0 c60
  by_cases c62 : s[0] = 62
  · exact sign_62 s w h0 c62
  by_cases c40 : s[0] = 40
  · exact sign_40 s w h0 c40
  by_cases c41 : s[0] = 41
  · exact sign_41 s w h0 c41
  by_cases c59 : s[0] = 59
  · exact sign_59 s w h0 c59
  by_cases c44 : s[0] = 44
  · exact sign_44 s w h0 c44
  by_cases c61 : s[0] = 61
  · exact sign_61 s w h0 c61
  by_cases c43 : s[0] = 43
  · exact sign_43 s w h0 c43
  by_cases c45 : s[0] = 45
  · exact sign_45 s w h0 c45
  by_cases c37 : s[0] = 37
  · exact sign_37 s w h0 c37
  exact sign_none s w h0 c126 c42 c47 c58 c60 c62 c40 c41 c59 c44 c61 c43 c45 c37
end Go.Proofs.YtlkedogplmnpkaaGreatDoor
