/- 
  The document's own 'after': the place behind blanks and remarks.
-/
import Derived.Test.YtlkedogplmnpkaaGreatDoorLexR
namespace Go.Proofs.YtlkedogplmnpkaaGreatDoor
open Go.RowKit

theorem byte_eq {c : UInt8} {n : Nat} (h : c.toNat = n) : ((c.toNat : Int) == (n : Int)) = true := by rw [h]; simp
theorem byte_ne {c : UInt8} {n : Nat} (h : ¬ c.toNat = n) : ((c.toNat : Int) == (n : Int)) = false := by simp; omega
theorem byte_is {c d : UInt8} (h : c.toNat = d.toNat) : c = d := UInt8.toNat_inj.1 h

set_option maxHeartbeats 1000000 in
theorem refAfter_calls (s : ByteArray) (p : Nat) (w : World) (hs : s.size ≤ 65536) (h1 : p ≤ s.size) :
    Calls Tryz.prog 17 #[.string s, .int .i64 p] w fun e w' => e = .returned (.int .i64 ((p + Lx.skip false (s.data.toList.drop p) : Nat) : Int)) ∧ w = w' := by
  go_enter Tryz.func17, Tryz.ntmps17
  go_wp2
  go_loop [1] (fun i => ∃ k : Nat, k ≤ s.size ∧ i = .int .i64 k ∧ Hid (p + Lx.skip false (s.data.toList.drop p) = k + Lx.skip false (s.data.toList.drop k))) (fun i => s.size - (intOf i).toNat)
  case atStart => exact ⟨p, h1, rfl, Lib.hid rfl⟩
  case round =>
    obtain ⟨k, hk, rfl, hsp⟩ := hrel
    by_cases hlt : k < s.size
    · have hd := Lib.hid (Lx.drop_cons s k hlt)
      by_cases h32 : s[k].toNat = 32
      · have f32 : ((s[k].toNat : Int) == 32) = true := byte_eq h32
        have hb : Lx.blank s[k] = true := by rw [byte_is (d := 32) h32]; rfl
        have hst := Lib.hid (show p + Lx.skip false (s.data.toList.drop p) = (k + 1) + Lx.skip false (s.data.toList.drop (k + 1)) by rw [hsp.out, hd.out, Lx.skip_blank hb]; omega)
        clear hb h32
        go_wp2
        go_round
        case rel => exact ⟨k + 1, by omega, by go_num, hst⟩
        case measure => simp [intOf]; omega
      by_cases h9 : s[k].toNat = 9
      · have f32 : ((s[k].toNat : Int) == 32) = false := byte_ne h32
        have f9 : ((s[k].toNat : Int) == 9) = true := byte_eq h9
        have hb : Lx.blank s[k] = true := by rw [byte_is (d := 9) h9]; rfl
        have hst := Lib.hid (show p + Lx.skip false (s.data.toList.drop p) = (k + 1) + Lx.skip false (s.data.toList.drop (k + 1)) by rw [hsp.out, hd.out, Lx.skip_blank hb]; omega)
        clear hb h32 h9
        go_wp2
        go_round
        case rel => exact ⟨k + 1, by omega, by go_num, hst⟩
        case measure => simp [intOf]; omega
      by_cases h10 : s[k].toNat = 10
      · have f32 : ((s[k].toNat : Int) == 32) = false := byte_ne h32
        have f9 : ((s[k].toNat : Int) == 9) = false := byte_ne h9
        have f10 : ((s[k].toNat : Int) == 10) = true := byte_eq h10
        have hb : Lx.blank s[k] = true := by rw [byte_is (d := 10) h10]; rfl
        have hst := Lib.hid (show p + Lx.skip false (s.data.toList.drop p) = (k + 1) + Lx.skip false (s.data.toList.drop (k + 1)) by rw [hsp.out, hd.out, Lx.skip_blank hb]; omega)
        clear hb h32 h9 h10
        go_wp2
        go_round
        case rel => exact ⟨k + 1, by omega, by go_num, hst⟩
        case measure => simp [intOf]; omega
      by_cases h13 : s[k].toNat = 13
      · have f32 : ((s[k].toNat : Int) == 32) = false := byte_ne h32
        have f9 : ((s[k].toNat : Int) == 9) = false := byte_ne h9
        have f10 : ((s[k].toNat : Int) == 10) = false := byte_ne h10
        have f13 : ((s[k].toNat : Int) == 13) = true := byte_eq h13
        have hb : Lx.blank s[k] = true := by rw [byte_is (d := 13) h13]; rfl
        have hst := Lib.hid (show p + Lx.skip false (s.data.toList.drop p) = (k + 1) + Lx.skip false (s.data.toList.drop (k + 1)) by rw [hsp.out, hd.out, Lx.skip_blank hb]; omega)
        clear hb h32 h9 h10 h13
        go_wp2
        go_round
        case rel => exact ⟨k + 1, by omega, by go_num, hst⟩
        case measure => simp [intOf]; omega
      by_cases h45 : s[k].toNat = 45
      · have f32 : ((s[k].toNat : Int) == 32) = false := byte_ne h32
        have f9 : ((s[k].toNat : Int) == 9) = false := byte_ne h9
        have f10 : ((s[k].toNat : Int) == 10) = false := byte_ne h10
        have f13 : ((s[k].toNat : Int) == 13) = false := byte_ne h13
        have f45 : ((s[k].toNat : Int) == 45) = true := byte_eq h45
        have hc : s[k] = 45 := byte_is (d := 45) h45
        have HC := Lib.hid hc
        clear hc h32 h9 h10 h13 h45
        by_cases hlt2 : k + 1 < s.size
        · have hd2 := Lib.hid (Lx.drop_cons s (k + 1) hlt2)
          have hI2 : (k : Int) + 1 < (s.size : Int) := by omega
          by_cases hq : s[k + 1].toNat = 45
          · have g45 : ((s[k + 1].toNat : Int) == 45) = true := byte_eq hq
            have hh : ((s.data.toList.drop (k + 1)).head? == some 45) = true := by rw [hd2.out, byte_is (d := 45) hq]; rfl
            have hrec := Lib.hid (Lx.skip_remark hh)
            have hpos : 0 < Lx.span Lx.line (s.data.toList.drop k) := by rw [hd.out, HC.out, Lx.span_hit (by rfl)]; omega
            have HP := Lib.hid hpos
            clear hh hpos hq
            go_wp2
            go_loop [1] (fun i => ∃ q : Nat, q ≤ s.size ∧ i = .int .i64 q ∧ Hid (k + Lx.span Lx.line (s.data.toList.drop k) = q + Lx.span Lx.line (s.data.toList.drop q))) (fun i => s.size - (intOf i).toNat)
            case atStart => exact ⟨k, hk, rfl, Lib.hid rfl⟩
            case round =>
              obtain ⟨q, hq, rfl, hsq⟩ := hrel
              by_cases hlq : q < s.size
              · have hdq := Lib.hid (Lx.drop_cons s q hlq)
                by_cases h10 : s[q].toNat = 10
                · have e10 : ((s[q].toNat : Int) == 10) = true := byte_eq h10
                  have hc10 := Lib.hid (byte_is (d := 10) h10)
                  clear h10
                  go_wp2
                  have hfin : Hid (p + Lx.skip false (s.data.toList.drop p) = q + Lx.skip false (s.data.toList.drop q)) := Lib.hid (by
                    have h0 : Lx.span Lx.line (s.data.toList.drop q) = 0 := by rw [hdq.out, hc10.out]; rfl
                    have h1 := hsq.out
                    rw [h0] at h1
                    rw [hsp.out, hd.out, HC.out, hrec.out, ← HC.out, ← hd.out, List.drop_drop, show k + Lx.span Lx.line (s.data.toList.drop k) = q from by omega]
                    omega)
                  have hqk : k < q := by have := HP.out; have h1 := hsq.out; rw [show Lx.span Lx.line (s.data.toList.drop q) = 0 from by rw [hdq.out, hc10.out]; rfl] at h1; omega
                  go_round
                  case rel => exact ⟨q, hq, rfl, hfin⟩
                  case measure => simp [intOf]; omega
                · have e10 : ((s[q].toNat : Int) == 10) = false := byte_ne h10
                  have hl : Hid (Lx.line s[q] = true) := Lib.hid (by unfold Lx.line; simpa using fun e => h10 (by rw [e]; rfl))
                  clear h10
                  go_wp2
                  go_round
                  case rel => exact ⟨q + 1, by omega, by go_num, Lib.hid (by rw [hsq.out, hdq.out, Lx.span_hit hl.out]; omega)⟩
                  case measure => simp [intOf]; omega
              · have hqe : q = s.size := by omega
                have hsp0 : Lx.span Lx.line (s.data.toList.drop q) = 0 := by rw [Lx.drop_end s q (by omega)]; rfl
                go_wp2
                have hfin : Hid (p + Lx.skip false (s.data.toList.drop p) = q + Lx.skip false (s.data.toList.drop q)) := Lib.hid (by
                  have h0 : Lx.span Lx.line (s.data.toList.drop q) = 0 := hsp0
                  have h1 := hsq.out
                  rw [h0] at h1
                  rw [hsp.out, hd.out, HC.out, hrec.out, ← HC.out, ← hd.out, List.drop_drop, show k + Lx.span Lx.line (s.data.toList.drop k) = q from by omega]
                  omega)
                have hqk : k < q := by have := HP.out; have h1 := hsq.out; rw [show Lx.span Lx.line (s.data.toList.drop q) = 0 from hsp0] at h1; omega
                go_round
                case rel => exact ⟨q, hq, rfl, hfin⟩
                case measure => simp [intOf]; omega
          · have g45 : ((s[k + 1].toNat : Int) == 45) = false := byte_ne hq
            have hz : Hid (Lx.skip false (s.data.toList.drop k) = 0) := Lib.hid (by
              rw [hd.out, HC.out, hd2.out]
              refine Lx.skip_stop (by rfl) ?_
              simpa using fun e => hq (by rw [e]; rfl))
            clear hq
            go_wp2
            go_ret
            exact ⟨ret_i64 (by have h1 := hsp.out; rw [hz.out] at h1; omega), rfl⟩
        · have hI2 : ¬ (k : Int) + 1 < (s.size : Int) := by omega
          have hz : Hid (Lx.skip false (s.data.toList.drop k) = 0) := Lib.hid (by
            rw [hd.out, HC.out, Lx.drop_end s (k + 1) (by omega)]; rfl)
          go_wp2
          go_ret
          exact ⟨ret_i64 (by have h1 := hsp.out; rw [hz.out] at h1; omega), rfl⟩
      have f32 : ((s[k].toNat : Int) == 32) = false := byte_ne h32
      have f9 : ((s[k].toNat : Int) == 9) = false := byte_ne h9
      have f10 : ((s[k].toNat : Int) == 10) = false := byte_ne h10
      have f13 : ((s[k].toNat : Int) == 13) = false := byte_ne h13
      have f45 : ((s[k].toNat : Int) == 45) = false := byte_ne h45
      have hz : Hid (Lx.skip false (s.data.toList.drop k) = 0) := Lib.hid (by
        rw [hd.out]
        refine Lx.skip_stop ?_ ?_
        · unfold Lx.blank; simp only [Bool.or_eq_false_iff, beq_eq_false_iff_ne]
          exact ⟨⟨⟨fun e => h32 (by rw [e]; rfl), fun e => h9 (by rw [e]; rfl)⟩, fun e => h10 (by rw [e]; rfl)⟩, fun e => h13 (by rw [e]; rfl)⟩
        · have : s[k] ≠ 45 := fun e => h45 (by rw [e]; rfl)
          simp [this])
      clear h32 h9 h10 h13 h45
      go_wp2
      go_ret
      exact ⟨ret_i64 (by have h1 := hsp.out; rw [hz.out] at h1; omega), rfl⟩
    · go_wp2
      go_ret
      exact ⟨ret_i64 (by have h1 := hsp.out; rw [Lx.drop_end s k (by omega), show Lx.skip false [] = 0 from rfl] at h1; omega), rfl⟩
end Go.Proofs.YtlkedogplmnpkaaGreatDoor
