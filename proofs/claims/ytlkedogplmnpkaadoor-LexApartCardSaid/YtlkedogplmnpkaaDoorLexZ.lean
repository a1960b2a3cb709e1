/- 
  The law LexApart, walked: true for any source and any blanks; what was there stays as it was.
-/
import Derived.Test.YtlkedogplmnpkaaDoorLexY
namespace Go.Proofs.YtlkedogplmnpkaaDoor
open Go.RowKit

/-- The blanks' numbers: the handed ones, then the place's own. -/
def gapsOf (m : Nat) (z : Nat → Nat) (n : Nat) : List Nat := (List.range n).map fun j => if j < m then z j else j % 256
theorem gapsOf_len (m : Nat) (z : Nat → Nat) (n : Nat) : (gapsOf m z n).length = n := by simp [gapsOf]
theorem gapsOf_at (m : Nat) (z : Nat → Nat) (n j : Nat) (h : j < n) : (gapsOf m z n)[j]'(by rw [gapsOf_len]; exact h) = if j < m then z j else j % 256 := by simp [gapsOf]
theorem join_step (ks : List Nat) (ts : List Lx.T) (j : Nat) (hk : j < ks.length) (ht : j < ts.length) : Lx.join (ks.drop j) (ts.drop j) = Lx.gap ks[j] ++ (ts[j].text ++ Lx.join (ks.drop (j + 1)) (ts.drop (j + 1))) := by
  rw [List.drop_eq_getElem_cons hk, List.drop_eq_getElem_cons ht]; rfl
theorem join_end (ks : List Nat) (ts : List Lx.T) (j : Nat) (ht : ts.length ≤ j) : Lx.join (ks.drop j) (ts.drop j) = [10] := by
  rw [List.drop_eq_nil_of_le ht]; cases ks.drop j <;> rfl

theorem below_drew (w : World) (n : Nat) {B : Nat} : Below B w (w.drewN n) := by
  induction n with
  | zero => exact Below.refl _ _
  | succ n ih => exact ih.trans (by first | exact (Below.refl _ _).drew | simp [World.drewN])
theorem app_data (a b : ByteArray) : (a ++ b).data.toList = a.data.toList ++ b.data.toList := by simp
theorem join_next (ks : List Nat) (ts : List Lx.T) (j : Nat) (hk : j < ks.length) (ht : j < ts.length) (b y xt x1 x2 : ByteArray) (hy : gapBytes ks[j] = y) (hxt : (⟨ts[j].text.toArray⟩ : ByteArray) = xt) (hx1 : b ++ y = x1) (hx2 : x1 ++ xt = x2)
    (h : Lx.join ks ts = b.data.toList ++ Lx.join (ks.drop j) (ts.drop j)) : Lx.join ks ts = x2.data.toList ++ Lx.join (ks.drop (j + 1)) (ts.drop (j + 1)) := by
  rw [h, join_step ks ts j hk ht, ← hx2, ← hx1, app_data, app_data, ← hy, gapBytes_data, ← hxt]
  simp
theorem join_bounds (ks : List Nat) (ts : List Lx.T) (j : Nat) (b y xt x1 x2 : ByteArray) (hx1 : b ++ y = x1) (hx2 : x1 ++ xt = x2) (h : Lx.join ks ts = x2.data.toList ++ Lx.join (ks.drop j) (ts.drop j)) (hl : (Lx.join ks ts).length ≤ 11300) :
    (b.size : Int) ≤ 8388608 ∧ (y.size : Int) ≤ 8388608 ∧ (x1.size : Int) ≤ 8388608 ∧ (xt.size : Int) ≤ 8388608 := by
  have h1 : x1.size = b.size + y.size := by rw [← hx1]; simp
  have h2 : x2.size = x1.size + xt.size := by rw [← hx2]; simp
  have h3 := congrArg List.length h
  rw [List.length_append, Lx.len] at h3
  omega
theorem stand_slice (src : ByteArray) (t : Lx.T) (xt : ByteArray) (hxt : (⟨t.text.toArray⟩ : ByteArray) = xt) (hst : Lx.Stands src.data.toList t) : xt.size = t.text.length ∧ t.pos + xt.size ≤ src.size ∧ src.extract t.pos (t.pos + xt.size) = xt := by
  have hxs : xt.size = t.text.length := by rw [← hxt]; simp [ByteArray.size]
  refine ⟨hxs, by rw [hxs, ← Lx.len]; exact hst.1, ?_⟩
  apply WideShapes.bytes_inj
  rw [hxs]
  have h2 : xt.data.toList = t.text := by rw [← hxt]
  rw [h2, ← hst.2]
  simp

set_option maxHeartbeats 4000000 in
set_option maxRecDepth 100000 in
theorem lexApart_ok (src : ByteArray) (A : Option Addr) (m c : Nat) (z : Nat → Nat) (w : World) (ht : Tabs w) (hs : src.size ≤ 1024)
    (hA : m = 0 ∨ ∃ a, A = some a ∧ a.block < w.heap.size ∧ ∀ j, j < m → w.cell? (a.add j) = some (.int .u8 (z j : Int)) ∧ z j < 256)
    (ts : List Lx.T) (hts : Lx.tokens src.data.toList = .ok ts) :
    Calls Tryd.prog 4 #[.string src, .slice A m c] w fun e w' => e = .returned (.bool true) ∧ Below w.heap.size w w' := by
  obtain ⟨n, hn⟩ : ∃ n, ts.length = n := ⟨_, rfl⟩
  obtain ⟨ks, hks⟩ : ∃ ks, gapsOf m z n = ks := ⟨_, rfl⟩
  have hkl : ks.length = n := by rw [← hks, gapsOf_len]
  have hkat : ∀ j (h : j < ks.length), ks[j] = if j < m then z j else j % 256 := by
    intro j h; subst hks; exact gapsOf_at m z n j (by omega)
  have hlen : src.data.toList.length ≤ 1024 := by rw [Lx.len]; exact hs
  -- what the plain law says
  have hplain : Hid ((0 < n ∧ n ≤ 1025) ∧ (Lx.join ks ts).length ≤ 11300 ∧ (∀ t ∈ ts, Lx.Stands src.data.toList t) ∧ ∃ ts', Lx.tokens (Lx.join ks ts) = .ok ts' ∧ Lx.Alike ts' ts ∧ Lx.Rise 0 ts') := Lib.hid (by
    have h := hts
    unfold Lx.tokens at h
    rw [if_neg (by omega)] at h
    have hsk := Lx.skip_le false src.data.toList
    have hsz := Lx.toks_sizes _ _ _ _ _ h
    simp only [List.length_drop] at hsz
    have hst := Lx.toks_stand src.data.toList _ _ _ _ h hsk
    have hag := Lx.toks_again _ _ _ _ _ h (by rw [List.length_drop]; omega) ks (by omega) ((Lx.join ks ts).length + 1) 0
    have h2 := hsz.2 ks
    have hne : 0 < n := by
      rcases Nat.eq_zero_or_pos n with h0 | h0
      · exfalso
        have : ts = [] := List.eq_nil_of_length_eq_zero (by omega)
        subst this
        exact Lx.toks_ne _ _ _ _ h
      · exact h0
    have hjl := Lx.join_len ks ts (by omega)
    obtain ⟨ts', h3, h4, h5⟩ := hag (by omega)
    refine ⟨⟨hne, by omega⟩, by omega, hst, ts', ?_, h4, h5⟩
    unfold Lx.tokens
    rw [if_neg (by omega), ← h3, Nat.zero_add])
  obtain ⟨⟨hn0, hn1⟩, hjoin, hstand, ts', hts', halike, hrise⟩ := hplain.out
  have hn' : ts'.length = n := by rw [alike_len halike, hn]
  have K1 := Lib.hid (tokens_good src ts n hts hn hn0 w ht)
  have HS := Lib.hid hstand
  have HAl := Lib.hid halike
  have HR := Lib.hid hrise
  clear hplain hstand halike hrise
  go_enter Tryd.func4, Tryd.ntmps4
  go_wp2_with (go_at_call 12; refine K1.out.mono ?_; rintro e w1 ⟨g, cp, rfl, hb1, hg1, hg2, ho⟩)
  have ht1 := ht.below hb1
  go_loopw [7, 8] (fun x i wr => ∃ (j : Nat) (b : ByteArray), x = .string b ∧ i = .int .i64 j ∧ j ≤ n ∧ Hid (Lx.join ks ts = b.data.toList ++ Lx.join (ks.drop j) (ts.drop j)) ∧ Below w1.heap.size w1 wr) (fun _ i _ => n - (intOf i).toNat)
  case atStart => exact ⟨0, ⟨#[]⟩, rfl, rfl, Nat.zero_le _, Lib.hid rfl, Below.refl _ _⟩
  case round =>
    obtain ⟨j, b, rfl, rfl, hj, hjo, hbr⟩ := hrel
    by_cases hlt : j < n
    · have hjt : j < ts.length := by omega
      obtain ⟨hc0, hc1, hc2, hc3⟩ := row_cells ho hn hbr hg2 j hjt
      obtain ⟨t, htt⟩ : ∃ t, ts[j] = t := ⟨_, rfl⟩
      rw [htt] at hc0 hc1 hc2 hc3
      have hst := HS.out t (by rw [← htt]; exact List.getElem_mem _)
      obtain ⟨xt, hxt⟩ : ∃ xt : ByteArray, (⟨t.text.toArray⟩ : ByteArray) = xt := ⟨_, rfl⟩
      rw [hxt] at hc1
      obtain ⟨hxs0, hst1, hq3⟩ := stand_slice src t xt hxt hst
      have hxs := Lib.hid hxs0
      clear hxs0
      by_cases hjm : j < m
      · obtain ⟨a, rfl, hab, hcell⟩ : ∃ a, A = some a ∧ a.block < w.heap.size ∧ ∀ j, j < m → w.cell? (a.add j) = some (.int .u8 (z j : Int)) ∧ z j < 256 := by
          rcases hA with h | h
          · omega
          · exact h
        have hcz : wr.cell? (a.add j) = some (.int .u8 (z j : Int)) := by
          have hadd : (a.add j).block = a.block := by unfold Addr.add; split <;> rfl
          rw [hbr.cell (by rw [hadd]; have := hb1.size; omega), hb1.cell (by rw [hadd]; exact hab)]; exact (hcell j hjm).1
        have hz256 := (hcell j hjm).2
        have hjI : (j : Int) < (n : Int) := by omega
        have hj0 : (0 : Int) ≤ (j : Int) := by omega
        have hp0 : (0 : Int) ≤ (t.pos : Int) := by omega
        have hp1 : (t.pos : Int) ≤ (t.pos : Int) + (xt.size : Int) := by omega
        have hp2 : (t.pos : Int) + (xt.size : Int) ≤ (src.size : Int) := by omega
        have hq2 : src.extract t.pos ((t.pos : Int) + (xt.size : Int)).toNat = xt := by rw [show ((t.pos : Int) + (xt.size : Int)).toNat = t.pos + xt.size from by omega]; exact hq3
        have hq1 : src.extract (t.pos : Int).toNat ((t.pos : Int) + (xt.size : Int)).toNat = xt := hq2
        obtain ⟨y, hy⟩ : ∃ y, gapBytes (z j) = y := ⟨_, rfl⟩
        have KB := Lib.hid (fun w : World => (show Calls Tryd.prog 13 #[.int .u8 (z j : Int)] w fun e w' => e = .returned (.string y) ∧ Below w.heap.size w w' by rw [← hy]; exact blanks_calls (z j) hz256 w))
        obtain ⟨x1, hx1⟩ : ∃ x1, b ++ y = x1 := ⟨_, rfl⟩
        obtain ⟨x2, hx2⟩ : ∃ x2, x1 ++ xt = x2 := ⟨_, rfl⟩
        have hkj : ks[j]'(by omega) = z j := by rw [hkat j (by omega), if_pos hjm]
        have hstep := Lib.hid (join_next ks ts j (by omega) hjt b y xt x1 x2 (by rw [hkj]; exact hy) (by rw [htt]; exact hxt) hx1 hx2 hjo.out)
        obtain ⟨hb0, hy0, hx0, hx3⟩ := join_bounds ks ts (j + 1) b y xt x1 x2 hx1 hx2 hstep.out hjoin
        clear hkj hy hxt hst hxs hA
        have hgr : g < wr.heap.size := by have := hbr.size; omega
        go_wp2
        have d1 : decide ((t.pos : Int) < 0) = false := decide_eq_false (by omega)
        have d2 : decide ((src.size : Int) < (t.pos : Int) + (xt.size : Int)) = false := decide_eq_false (by omega)
        have hw : IntKind.i64.wrap ((t.pos : Int) + (xt.size : Int)) = (t.pos : Int) + (xt.size : Int) := by rw [IntKind.wrap_i64]; omega
        go_quiet (fail)
        clear d1 d2 hw hq1 hq2 hq3 hc0 hc2 hc3 hcz hcell
        go_wp2
        go_region_with (go_at_call 13; refine (KB.out _).mono ?_; rintro e w2 ⟨rfl, hb2⟩; have hc1b : w2.cell? ⟨g, j * 4 + 1, none⟩ = some (.string xt) := (hb2.cell (p := ⟨g, j * 4 + 1, none⟩) (by simpa using hgr)).trans (by simpa using hc1))
        all_goals go_wp2
        all_goals go_roundw
        all_goals first
          | exact ⟨j + 1, x2, rfl, by go_num, by omega, hstep, hbr.trans ((below_drew _ _).trans (hb2.mono (by simpa using hbr.size)))⟩
          | (simp [intOf]; omega)
      · have hz256 : j % 256 < 256 := by omega
        have hjI : (j : Int) < (n : Int) := by omega
        have hj0 : (0 : Int) ≤ (j : Int) := by omega
        have hp0 : (0 : Int) ≤ (t.pos : Int) := by omega
        have hp1 : (t.pos : Int) ≤ (t.pos : Int) + (xt.size : Int) := by omega
        have hp2 : (t.pos : Int) + (xt.size : Int) ≤ (src.size : Int) := by omega
        have hq2 : src.extract t.pos ((t.pos : Int) + (xt.size : Int)).toNat = xt := by rw [show ((t.pos : Int) + (xt.size : Int)).toNat = t.pos + xt.size from by omega]; exact hq3
        have hq1 : src.extract (t.pos : Int).toNat ((t.pos : Int) + (xt.size : Int)).toNat = xt := hq2
        obtain ⟨y, hy⟩ : ∃ y, gapBytes (j % 256) = y := ⟨_, rfl⟩
        have KB := Lib.hid (fun w : World => (show Calls Tryd.prog 13 #[.int .u8 ((j : Int) % 256)] w fun e w' => e = .returned (.string y) ∧ Below w.heap.size w w' by rw [← hy]; rw [show ((j : Int) % 256) = ((j % 256 : Nat) : Int) from by simp]; exact blanks_calls (j % 256) hz256 w))
        obtain ⟨x1, hx1⟩ : ∃ x1, b ++ y = x1 := ⟨_, rfl⟩
        obtain ⟨x2, hx2⟩ : ∃ x2, x1 ++ xt = x2 := ⟨_, rfl⟩
        have hkj : ks[j]'(by omega) = j % 256 := by rw [hkat j (by omega), if_neg hjm]
        have hstep := Lib.hid (join_next ks ts j (by omega) hjt b y xt x1 x2 (by rw [hkj]; exact hy) (by rw [htt]; exact hxt) hx1 hx2 hjo.out)
        obtain ⟨hb0, hy0, hx0, hx3⟩ := join_bounds ks ts (j + 1) b y xt x1 x2 hx1 hx2 hstep.out hjoin
        clear hkj hy hxt hst hxs hA
        have hgr : g < wr.heap.size := by have := hbr.size; omega
        go_wp2
        have d1 : decide ((t.pos : Int) < 0) = false := decide_eq_false (by omega)
        have d2 : decide ((src.size : Int) < (t.pos : Int) + (xt.size : Int)) = false := decide_eq_false (by omega)
        have hw : IntKind.i64.wrap ((t.pos : Int) + (xt.size : Int)) = (t.pos : Int) + (xt.size : Int) := by rw [IntKind.wrap_i64]; omega
        go_quiet (fail)
        clear d1 d2 hw hq1 hq2 hq3 hc0 hc2 hc3
        go_wp2
        go_region_with (go_at_call 13; refine (KB.out _).mono ?_; rintro e w2 ⟨rfl, hb2⟩; have hc1b : w2.cell? ⟨g, j * 4 + 1, none⟩ = some (.string xt) := (hb2.cell (p := ⟨g, j * 4 + 1, none⟩) (by simpa using hgr)).trans (by simpa using hc1))
        all_goals go_wp2
        all_goals go_roundw
        all_goals first
          | exact ⟨j + 1, x2, rfl, by go_num, by omega, hstep, hbr.trans ((below_drew _ _).trans (hb2.mono (by simpa using hbr.size)))⟩
          | (simp [intOf]; omega)
    · have hjn : j = n := by omega
      have hend : Lx.join ks ts = b.data.toList ++ [10] := by rw [hjo.out, join_end ks ts j (by omega)]
      obtain ⟨x3, hx3⟩ : ∃ x3 : ByteArray, b ++ ⟨#[10]⟩ = x3 := ⟨_, rfl⟩
      have hx3d : x3.data.toList = Lx.join ks ts := by rw [← hx3, app_data, hend]
      have hb0 : (b.size : Int) ≤ 8388608 := by
        have h3 := congrArg List.length hend
        rw [List.length_append, Lx.len] at h3
        omega
      have h10 : ((⟨#[10]⟩ : ByteArray).size : Int) ≤ 8388608 := by decide
      have htr := ht1.below hbr
      have K3 := Lib.hid (tokens_good x3 ts' n (by rw [hx3d]; exact hts') hn' hn0 wr htr)
      have hjI : ¬ (j : Int) < (n : Int) := by omega
      clear hx3d hend hjo
      go_wp2_with (go_at_call 12; refine K3.out.mono ?_; rintro e w3 ⟨g3, cp3, rfl, hb3, hg3, hg4, ho3⟩)
      have ht3 := htr.below hb3
      have hb13 : Below w1.heap.size w1 w3 := hbr.trans (hb3.mono hbr.size)
      go_loopw [12] (fun i wq => ∃ j : Nat, i = .int .i64 j ∧ j ≤ n ∧ Below w3.heap.size w3 wq) (fun i _ => n - (intOf i).toNat)
      case atStart => exact ⟨0, rfl, Nat.zero_le _, Below.refl _ _⟩
      case round =>
        obtain ⟨i, rfl, hi, hbq⟩ := hrel
        by_cases hlt2 : i < n
        · have hit : i < ts.length := by omega
          have hit' : i < ts'.length := by omega
          obtain ⟨hc0, hc1, hc2, hc3⟩ := row_cells ho hn (hb13.trans (hbq.mono hb13.size)) hg2 i hit
          obtain ⟨hd0, hd1, hd2, hd3⟩ := row_cells ho3 hn' hbq hg4 i hit'
          obtain ⟨ha0, ha1, ha2⟩ := alike_at HAl.out i hit' hit
          rw [ha0] at hd0
          rw [ha1] at hd1
          rw [ha2] at hd2
          obtain ⟨t, htt⟩ : ∃ t, ts[i] = t := ⟨_, rfl⟩
          rw [htt] at hc0 hc1 hc2 hc3 hd0 hd1 hd2
          obtain ⟨u, huu⟩ : ∃ u, ts'[i].pos = u := ⟨_, rfl⟩
          rw [huu] at hd3
          obtain ⟨xt, hxt⟩ : ∃ xt : ByteArray, (⟨t.text.toArray⟩ : ByteArray) = xt := ⟨_, rfl⟩
          rw [hxt] at hc1 hd1
          clear htt hxt ha0 ha1 ha2
          have hiI : (i : Int) < (n : Int) := by omega
          have hi0 : (0 : Int) ≤ (i : Int) := by omega
          cases i with
          | zero =>
            simp only [Nat.zero_mul, Nat.zero_add] at hc0 hc1 hc2 hc3 hd0 hd1 hd2 hd3
            clear huu
            go_wp2
            go_quiet (fail)
            go_wp2
            refine ⟨⟨1, rfl, by omega, hbq.trans (below_drew _ _)⟩, ?_⟩
            simp [intOf]; omega
          | succ i =>
            obtain ⟨_, _, _, hd7⟩ := row_cells ho3 hn' hbq hg4 i (by omega)
            have hrise := rise_at HR.out i hit'
            rw [huu] at hrise
            obtain ⟨v, hvv⟩ : ∃ v, ts'[i].pos = v := ⟨_, rfl⟩
            rw [hvv] at hd7 hrise
            clear huu hvv
            have hpI : decide ((u : Int) ≤ (v : Int)) = false := decide_eq_false (by omega)
            have hpos : (0 : Int) < (i : Int) + 1 := by omega
            have hiI2 : (i : Int) < (n : Int) := by omega
            have hi2 : (0 : Int) ≤ (i : Int) := by omega
            go_wp2
            go_quiet (fail)
            go_wp2
            refine ⟨⟨i + 2, by go_num, by omega, hbq.trans (below_drew _ _)⟩, ?_⟩
            simp [intOf]; omega
        · have hjn2 : ¬ (i : Int) < (n : Int) := by omega
          have htq := ht3.below hbq
          go_wp2_with (go_at_call 5; refine (alive_calls _ htq).mono ?_; rintro e w5 ⟨rfl, hb5⟩)
          go_ret
          exact ⟨rfl, hb1.trans ((hb13.trans ((hbq.trans (hb5.mono hbq.size)).mono hb13.size)).mono hb1.size)⟩
end Go.Proofs.YtlkedogplmnpkaaDoor
