/- 
  The law's own 'same': two equal rows of tokens, and two empty ones.
-/
import Derived.Test.YtlkedogplmnpkaaGreatDoorLexP
import Derived.Test.YtlkedogplmnpkaaGreatDoorLexRg
namespace Go.Proofs.YtlkedogplmnpkaaGreatDoor
open Go.RowKit

theorem same_empty (w : World) :
    Calls Tryz.prog 8 #[.slice none 0 0, .slice none 0 0] w fun e w' => e = .returned (.bool true) ∧ w = w' := by
  go_enter Tryz.func8, Tryz.ntmps8
  go_wp2
  go_loop [5] (fun i => i = .int .i64 (0 : Nat)) (fun _ => 0)
  case atStart => rfl
  case round =>
    subst hrel
    go_wp2
    go_ret
    exact ⟨rfl, rfl⟩

set_option maxHeartbeats 2000000 in
set_option maxRecDepth 100000 in
theorem same_rows (ts : List Lx.T) (n g c b g2 c2 b2 : Nat) (w : World) (hn : ts.length = n) (hn2 : n ≤ 65536) (ho : w.ownsRow b 39 4 (.slice (some ⟨g, 0, none⟩) n c) n (cellsOf ts)) (ho2 : w.ownsRow b2 39 4 (.slice (some ⟨g2, 0, none⟩) n c2) n (cellsOf ts)) (hg : g < w.heap.size) (hg2 : g2 < w.heap.size) :
    Calls Tryz.prog 8 #[.slice (some ⟨g, 0, none⟩) n c, .slice (some ⟨g2, 0, none⟩) n c2] w fun e w' => e = .returned (.bool true) ∧ Below w.heap.size w w' := by
  go_enter Tryz.func8, Tryz.ntmps8
  go_wp2
  go_loopw [5] (fun i wr => ∃ k : Nat, i = .int .i64 k ∧ k ≤ n ∧ Below w.heap.size w wr) (fun i _ => n - (intOf i).toNat)
  case atStart => exact ⟨0, rfl, Nat.zero_le _, Below.refl _ _⟩
  case round =>
    obtain ⟨k, rfl, hk, hbr⟩ := hrel
    by_cases hlt : k < n
    · have hkt : k < ts.length := by omega
      obtain ⟨hc0, hc1, hc2, hc3⟩ := row_cells ho hn hbr hg k hkt
      obtain ⟨hd0, hd1, hd2, hd3⟩ := row_cells ho2 hn hbr hg2 k hkt
      obtain ⟨t, htt⟩ : ∃ t, ts[k] = t := ⟨_, rfl⟩
      rw [htt] at hc0 hc1 hc2 hc3 hd0 hd1 hd2 hd3
      obtain ⟨xt, hxt⟩ : ∃ xt : ByteArray, (⟨t.text.toArray⟩ : ByteArray) = xt := ⟨_, rfl⟩
      rw [hxt] at hc1 hd1
      obtain ⟨x0, h0⟩ : ∃ x0, t.kind = x0 := ⟨_, rfl⟩
      obtain ⟨x2, h2⟩ : ∃ x2, t.int = x2 := ⟨_, rfl⟩
      obtain ⟨x3, h3⟩ : ∃ x3, t.pos = x3 := ⟨_, rfl⟩
      rw [h0] at hc0 hd0
      rw [h2] at hc2 hd2
      rw [h3] at hc3 hd3
      clear htt hxt h0 h2 h3
      have hkI : (k : Int) < (n : Int) := by omega
      have hk0 : (0 : Int) ≤ (k : Int) := by omega
      go_wp2
      go_quiet (fail)
      go_wp2
      refine ⟨⟨k + 1, by go_num, by omega, hbr.trans (below_drewR _ _)⟩, ?_⟩
      simp [intOf]; omega
    · have hkI : ¬ (k : Int) < (n : Int) := by omega
      go_wp2
      go_ret
      exact ⟨rfl, hbr⟩
end Go.Proofs.YtlkedogplmnpkaaGreatDoor
