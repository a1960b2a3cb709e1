/- 
  The document's Name and Line: what each returns.
-/
import Derived.Test.YtlkedogplmnpkaaDoorLexR
import Derived.Test.YtlkedogplmnpkaaDoorLexD
import Derived.Test.YtlkedogplmnpkaaDoorLexL
namespace Go.Proofs.YtlkedogplmnpkaaDoor
open Go.RowKit

set_option maxHeartbeats 1000000 in
theorem refName_calls (s : ByteArray) (w : World) (hs : s.size ≤ 65536) :
    Calls Tryd.prog 11 #[.string s] w fun e w' => e = .returned (.bool (Lx.name s.data.toList)) ∧ Below w.heap.size w w' := by
  by_cases h0 : s.size = 0
  · have e0 := Lib.hid (name_nil s h0)
    have e1 : s.toList = [] := by rw [Lib.toList_data]; exact List.eq_nil_of_length_eq_zero (by rw [Lx.len]; exact h0)
    clear h0
    go_enter Tryd.func11, Tryd.ntmps11
    go_wp2
    go_ret
    exact ⟨ret_bool (by rw [e0.out]), Below.refl _ _⟩
  · have hpos : 0 < s.size := by omega
    have e0 := name_eq s hpos
    have e1 : s.toList.isEmpty = false := by rw [Lib.toList_data]; simpa using Lx.ne_nil s hpos
    have e2 : ¬ s.toList = [] := by rw [Lib.toList_data]; exact Lx.ne_nil s hpos
    clear h0
    by_cases h32 : s.size ≤ 32
    · obtain ⟨b, hb⟩ : ∃ b, Lx.letter s[0] = b := ⟨_, rfl⟩
      have K1 := Lib.hid (fun w : World => (show Calls Tryd.prog 23 #[.int .u8 (s[0].toNat : Int)] w fun e w' => e = .returned (.bool b) ∧ w = w' by rw [← hb]; exact refLetter_calls _ w))
      rw [hb] at e0
      clear hb
      cases b
      · have E0 := Lib.hid e0
        clear e0
        go_enter Tryd.func11, Tryd.ntmps11
        go_wp2_with (go_at_call 23; refine (K1.out _).mono ?_; rintro e w' ⟨rfl, rfl⟩)
        go_ret
        exact ⟨ret_bool (by rw [E0.out]; simp), Below.refl _ _⟩
      · obtain ⟨d, hd⟩ : ∃ d, Lx.word s.data.toList = d := ⟨_, rfl⟩
        have K2 := Lib.hid (fun w : World => (show Calls Tryd.prog 9 #[.string s] w fun e w' => e = .returned (.bool d) ∧ Below w.heap.size w w' by rw [← hd]; exact refWord_calls _ w))
        rw [hd] at e0
        clear hd
        have E0 := Lib.hid e0
        clear e0
        cases d
        · go_enter Tryd.func11, Tryd.ntmps11
          go_wp2_with (first | (go_at_call 23; refine (K1.out _).mono ?_; rintro e w' ⟨rfl, rfl⟩) | (go_at_call 9; refine (K2.out _).mono ?_; rintro e w' ⟨rfl, hbw⟩))
          go_loopw [3] (fun i wr => wr = w' ∧ ∃ k : Nat, k ≤ s.size ∧ i = .int .i64 k ∧ Hid (Lx.span Lx.named s.data.toList = k + Lx.span Lx.named (s.data.toList.drop k))) (fun i _ => s.size - (intOf i).toNat)
          case atStart => exact ⟨rfl, 0, Nat.zero_le _, rfl, Lib.hid (by simp)⟩
          case round =>
            obtain ⟨rfl, k, hk, rfl, hsp⟩ := hrel
            by_cases hlt : k < s.size
            · obtain ⟨x, hx⟩ : ∃ x, Lx.letter s[k] = x := ⟨_, rfl⟩
              obtain ⟨y, hy⟩ : ∃ y, Lx.digit s[k] = y := ⟨_, rfl⟩
              have hn : Hid (Lx.named s[k] = (x || y)) := Lib.hid (by rw [Lx.named, hx, hy])
              have K3 := Lib.hid (fun w : World => (show Calls Tryd.prog 23 #[.int .u8 (s[k].toNat : Int)] w fun e w' => e = .returned (.bool x) ∧ w = w' by rw [← hx]; exact refLetter_calls _ w))
              have K4 := Lib.hid (fun w : World => (show Calls Tryd.prog 24 #[.int .u8 (s[k].toNat : Int)] w fun e w' => e = .returned (.bool y) ∧ w = w' by rw [← hy]; exact refDigit_calls _ w))
              clear hx hy K1
              cases x <;> cases y
              all_goals
                go_wp2_with (first | (go_at_call 23; refine (K3.out _).mono ?_; rintro e w' ⟨rfl, rfl⟩) | (go_at_call 24; refine (K4.out _).mono ?_; rintro e w' ⟨rfl, rfl⟩))
              · go_ret
                have hm : Lx.span Lx.named s.data.toList ≠ s.size := by rw [hsp.out, Lx.drop_cons s k hlt, Lx.span_miss hn.out]; omega
                exact ⟨ret_bool (by rw [E0.out]; simp [hm]), hbw⟩
              all_goals
                go_roundw
                case rel => exact ⟨trivial, k + 1, by omega, by go_num, Lib.hid (by rw [hsp.out, Lx.drop_cons s k hlt, Lx.span_hit hn.out]; omega)⟩
                case measure => simp [intOf]; omega
            · go_wp2
              go_ret
              have hm : Lx.span Lx.named s.data.toList = s.size := by rw [hsp.out, Lx.drop_end s k (by omega)]; simp [Lx.span]; omega
              exact ⟨ret_bool (by rw [E0.out]; simp [hm, h32]), hbw⟩
        · go_enter Tryd.func11, Tryd.ntmps11
          go_wp2_with (first | (go_at_call 23; refine (K1.out _).mono ?_; rintro e w' ⟨rfl, rfl⟩) | (go_at_call 9; refine (K2.out _).mono ?_; rintro e w' ⟨rfl, hbw⟩))
          go_ret
          exact ⟨ret_bool (by rw [E0.out]; simp), hbw⟩
    · have E0 := Lib.hid e0
      clear e0
      go_enter Tryd.func11, Tryd.ntmps11
      go_wp2
      go_ret
      exact ⟨ret_bool (by rw [E0.out]; simp [h32]), Below.refl _ _⟩

theorem byte_ten (c : UInt8) : ((c.toNat : Int) == 10) = (c == 10) := by
  rw [Bool.eq_iff_iff, beq_iff_eq, beq_iff_eq, ← UInt8.toNat_inj]
  have : (10 : UInt8).toNat = 10 := rfl
  omega
theorem refLine_calls (s : ByteArray) (p : Int) (w : World) (hs : s.size ≤ 65536) :
    Calls Tryd.prog 7 #[.string s, .int .i64 p] w fun e w' => e = .returned (.tuple #[.int .i64 ((Lx.place (s.data.toList.take (Lx.clip p s.size))).1 : Int), .int .i64 ((Lx.place (s.data.toList.take (Lx.clip p s.size))).2 : Int)]) ∧ w = w' := by
  have hcl : ∀ k : Nat, k < Lx.clip p s.size ↔ (k < s.size ∧ (k : Int) < p) := by intro k; unfold Lx.clip; omega
  have hk := Lx.clip_le p s.size
  obtain ⟨m, hm⟩ : ∃ m, Lx.clip p s.size = m := ⟨_, rfl⟩
  rw [hm] at hk hcl ⊢
  clear hm
  have HC := Lib.hid hcl
  clear hcl
  obtain ⟨q, hq⟩ : ∃ q, Lx.place (s.data.toList.take m) = q := ⟨_, rfl⟩
  rw [hq]
  go_enter Tryd.func7, Tryd.ntmps7
  go_wp2
  go_loop [6, 7, 8] (fun a b i => ∃ k x y : Nat, k ≤ m ∧ i = .int .i64 k ∧ a = .int .i64 x ∧ b = .int .i64 y ∧ x ≤ k + 1 ∧ y ≤ k + 1 ∧ Hid (Lx.place (s.data.toList.take k) = (x, y))) (fun _ _ i => s.size - (intOf i).toNat)
  case atStart => exact ⟨0, 1, 1, Nat.zero_le _, rfl, rfl, rfl, by omega, by omega, Lib.hid rfl⟩
  case round =>
    obtain ⟨k, x, y, hkm, rfl, rfl, rfl, hx, hy, hp⟩ := hrel
    by_cases hlt : k < m
    · have h1 := ((HC.out k).1 hlt).1
      have h2 := ((HC.out k).1 hlt).2
      have hs1 : Hid (Lx.place (s.data.toList.take (k + 1)) = if s[k] == 10 then (x + 1, 1) else (x, y + 1)) := Lib.hid (by
        rw [Lx.take_snoc s k h1, Lx.place_snoc, hp.out]; rfl)
      go_wp2
      · have hb : (s[k] == 10) = true := by rw [← byte_ten]; assumption
        refine ⟨⟨k + 1, x + 1, 1, by omega, by go_num, by go_num, by go_num, by omega, by omega, Lib.hid (by rw [hs1.out, hb]; rfl)⟩, ?_⟩
        simp [intOf]; omega
      · have hb : (s[k] == 10) = false := by rw [← byte_ten]; assumption
        refine ⟨⟨k + 1, x, y + 1, by omega, by go_num, rfl, by go_num, by omega, by omega, Lib.hid (by rw [hs1.out, hb]; rfl)⟩, ?_⟩
        simp [intOf]; omega
    · have hkm' : k = m := by omega
      subst hkm'
      have hq2 : Hid (q = (x, y)) := Lib.hid (by rw [← hq, hp.out])
      clear hq
      have h3 : ¬ (k < s.size ∧ (k : Int) < p) := fun h => hlt ((HC.out k).2 h)
      by_cases h1 : k < s.size
      · have h2 : ¬ (k : Int) < p := fun h => h3 ⟨h1, h⟩
        clear h3
        go_wp2
        go_ret2
        exact ⟨ret_two (by rw [hq2.out]) (by rw [hq2.out]), rfl⟩
      · clear h3
        go_wp2
        go_ret2
        exact ⟨ret_two (by rw [hq2.out]) (by rw [hq2.out]), rfl⟩
end Go.Proofs.YtlkedogplmnpkaaDoor
