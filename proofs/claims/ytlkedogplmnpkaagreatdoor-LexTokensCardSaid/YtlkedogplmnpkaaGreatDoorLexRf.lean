/- 
  The document's own 'token': at a byte that is neither a letter nor a digit.
-/
import Derived.Test.YtlkedogplmnpkaaGreatDoorLexRe
import Derived.BigQuiet
import Derived.Deep.RegionWith
namespace Go.Proofs.YtlkedogplmnpkaaGreatDoor
open Go.RowKit
/-- The document's signs, as texts. -/
def refSigns : List ByteArray := [⟨#[42, 94]⟩, ⟨#[47, 94]⟩, ⟨#[126, 62]⟩, ⟨#[58, 58]⟩, ⟨#[60, 62]⟩, ⟨#[60, 61]⟩, ⟨#[62, 61]⟩, ⟨#[40]⟩, ⟨#[41]⟩, ⟨#[59]⟩, ⟨#[58]⟩, ⟨#[44]⟩, ⟨#[61]⟩, ⟨#[60]⟩, ⟨#[62]⟩, ⟨#[43]⟩, ⟨#[45]⟩, ⟨#[42]⟩, ⟨#[47]⟩, ⟨#[37]⟩]
theorem refSigns_plain : refSigns.map (fun b => b.data.toList) = Lx.signs := rfl
def signCells : Array Value := #[.string ⟨#[42, 94]⟩, .string ⟨#[47, 94]⟩, .string ⟨#[126, 62]⟩, .string ⟨#[58, 58]⟩, .string ⟨#[60, 62]⟩, .string ⟨#[60, 61]⟩, .string ⟨#[62, 61]⟩, .string ⟨#[40]⟩, .string ⟨#[41]⟩, .string ⟨#[59]⟩, .string ⟨#[58]⟩, .string ⟨#[44]⟩, .string ⟨#[61]⟩, .string ⟨#[60]⟩, .string ⟨#[62]⟩, .string ⟨#[43]⟩, .string ⟨#[45]⟩, .string ⟨#[42]⟩, .string ⟨#[47]⟩, .string ⟨#[37]⟩]
theorem refSigns_calls (w : World) :
    Calls Tryz.prog 37 #[] w fun e w' => e = .returned (.slice (some ⟨w.heap.size, 0, none⟩) 20 20) ∧ w' = w.alloc (.cells signCells 9) := by
  go_enter Tryz.func37, Tryz.ntmps37
  go_wp2
  go_ret
  exact ⟨rfl, rfl⟩
theorem refSigns_at : ∀ j, j < 20 → ∃ x : ByteArray, signCells[j]? = some (.string x) ∧ Lx.signs[j]? = some x.data.toList ∧ 1 ≤ x.size ∧ x.size ≤ 2 := by
  intro j h
  rcases j with _ | _ | _ | _ | _ | _ | _ | _ | _ | _ | _ | _ | _ | _ | _ | _ | _ | _ | _ | _ | j
  all_goals first | exact ⟨_, rfl, rfl, by decide, by decide⟩ | omega
namespace Lx
/-- What is found behind the first k signs. -/
def found (k : Nat) (l : List UInt8) : Option (List UInt8) := (signs.drop k).find? (fun x => x.isPrefixOf l)
theorem found_hit {k : Nat} {l x : List UInt8} (h : signs[k]? = some x) (he : l.take x.length = x) : found k l = some x := by
  obtain ⟨hk, rfl⟩ := List.getElem?_eq_some_iff.1 h
  unfold found
  rw [List.drop_eq_getElem_cons hk, List.find?_cons]
  have : signs[k].isPrefixOf l = true := by rw [List.isPrefixOf_iff_prefix, List.prefix_iff_eq_take]; exact he.symm
  rw [this]
theorem found_miss {k : Nat} {l x : List UInt8} (h : signs[k]? = some x) (he : l.take x.length ≠ x) : found k l = found (k + 1) l := by
  obtain ⟨hk, rfl⟩ := List.getElem?_eq_some_iff.1 h
  unfold found
  rw [List.drop_eq_getElem_cons hk, List.find?_cons]
  have : signs[k].isPrefixOf l = false := by
    rw [Bool.eq_false_iff]; intro e
    rw [List.isPrefixOf_iff_prefix, List.prefix_iff_eq_take] at e
    exact he e.symm
  rw [this]
theorem found_end (l : List UInt8) : found 20 l = none := rfl
theorem found_all (l : List UInt8) : found 0 l = if sign l = 0 then none else some (l.take (sign l)) := sign_find l
theorem tok_found {l x : List UInt8} (hl : letter (l.headD 0) = false) (hd : digit (l.headD 0) = false) (h : found 0 l = some x) : tok l = .ok (4, sign l, 0) ∧ x = l.take (sign l) := by
  rw [found_all] at h
  rw [tok_sign hl hd]
  by_cases h0 : sign l = 0
  · rw [if_pos h0] at h; cases h
  · rw [if_neg h0] at h
    have : (sign l == 0) = false := by simpa using h0
    rw [this]
    exact ⟨rfl, (Option.some.inj h).symm⟩
theorem tok_lost {l : List UInt8} (hl : letter (l.headD 0) = false) (hd : digit (l.headD 0) = false) (h : found 0 l = none) : tok l = .error 30 := by
  rw [found_all] at h
  rw [tok_sign hl hd]
  by_cases h0 : sign l = 0
  · rw [h0]; rfl
  · rw [if_neg h0] at h; cases h
end Lx
theorem below_drewR (w : World) (n : Nat) {B : Nat} : Below B w (w.drewN n) := by
  induction n with
  | zero => exact Below.refl _ _
  | succ n ih => exact ih.trans (by first | exact (Below.refl _ _).drew | simp [World.drewN])

/-- What the loop over the signs keeps: the result's four cells, the twenty texts, and all that was there. -/
def SignsIn (w wr : World) : Prop :=
  wr.heap[w.heap.size]? = some (.cells #[.int .u8 0, .string ⟨#[]⟩, .int .i64 0, .int .i64 0] 39 (0, 0)) ∧ (∀ (j : Nat) (x : Value), signCells[j]? = some x → wr.cell? ⟨w.heap.size + 1, j, none⟩ = some x) ∧ w.heap.size + 1 < wr.heap.size ∧ Below w.heap.size w wr
theorem SignsIn.start (w : World) : SignsIn w ((w.alloc (.cells #[.int .u8 0, .string ⟨#[]⟩, .int .i64 0, .int .i64 0] 39)).alloc (.cells signCells 9)) := by
  refine ⟨?_, ?_, by simp, ((Below.refl _ _).alloc (Nat.le_refl _) _).alloc (by simp) _⟩
  · exact (Below.heap_alloc _ _ w.heap.size (by simp)).trans (heap_alloc_new w _)
  · intro j x h
    rw [World.cell?_alloc_at _ _ _ _ (by simp)]
    exact h
theorem frozen_of_row (w : World) (g j : Nat) {cs : Array Value} {t : TypeId} (h : w.heap[g]? = some (.cells cs t (0, 0))) : w.frozen? ⟨g, j, none⟩ = false := by
  unfold World.frozen?
  simp [h]
/-- The result's cells are there and may be written. -/
theorem SignsIn.cells {w wr : World} (h : SignsIn w wr) : (wr.cell? ⟨w.heap.size, 0, none⟩ = some (.int .u8 0) ∧ wr.cell? ⟨w.heap.size, 1, none⟩ = some (.string ⟨#[]⟩) ∧ wr.cell? ⟨w.heap.size, 2, none⟩ = some (.int .i64 0) ∧ wr.cell? ⟨w.heap.size, 3, none⟩ = some (.int .i64 0)) ∧
    wr.frozen? ⟨w.heap.size, 0, none⟩ = false ∧ wr.frozen? ⟨w.heap.size, 1, none⟩ = false ∧ wr.frozen? ⟨w.heap.size, 2, none⟩ = false ∧ wr.frozen? ⟨w.heap.size, 3, none⟩ = false :=
  ⟨⟨cell_of_row _ _ 0 _ _ _ h.1, cell_of_row _ _ 1 _ _ _ h.1, cell_of_row _ _ 2 _ _ _ h.1, cell_of_row _ _ 3 _ _ _ h.1⟩, frozen_of_row _ _ 0 h.1, frozen_of_row _ _ 1 h.1, frozen_of_row _ _ 2 h.1, frozen_of_row _ _ 3 h.1⟩
theorem SignsIn.drewN {w wr : World} (h : SignsIn w wr) (n : Nat) : SignsIn w (wr.drewN n) := by
  obtain ⟨h1, h2, h3, h4⟩ := h
  have hb : Below wr.heap.size wr (wr.drewN n) := below_drewR wr n
  exact ⟨(hb.block w.heap.size (by omega)).trans h1, fun j x hx => (hb.cell (p := ⟨w.heap.size + 1, j, none⟩) h3).trans (h2 j x hx), Nat.lt_of_lt_of_le h3 hb.size, h4.trans (hb.mono h4.size)⟩

set_option maxHeartbeats 2000000 in
set_option maxRecDepth 100000 in
theorem refToken_sign (s : ByteArray) (p : Nat) (w : World) (hs : s.size ≤ 65536) (hp : p < s.size) (hl : Lx.letter s[p] = false) (hdg : Lx.digit s[p] = false) :
    Calls Tryz.prog 18 #[.string s, .int .i64 p] w (RefPost (s.data.toList.drop p) p w) := by
  have hhead : Lx.letter ((s.data.toList.drop p).headD 0) = false := by rw [Lx.drop_cons s p hp]; exact hl
  have hhead2 : Lx.digit ((s.data.toList.drop p).headD 0) = false := by rw [Lx.drop_cons s p hp]; exact hdg
  have HF := Lib.hid (fun x => Lx.tok_found (x := x) hhead hhead2)
  have HL := Lib.hid (Lx.tok_lost hhead hhead2)
  have K1 := Lib.hid (fun w : World => (show Calls Tryz.prog 33 #[.int .u8 (s[p].toNat : Int)] w fun e w' => e = .returned (.bool false) ∧ w = w' by rw [← hl]; exact refLetter_calls _ w))
  have K2 := Lib.hid (fun w : World => (show Calls Tryz.prog 34 #[.int .u8 (s[p].toNat : Int)] w fun e w' => e = .returned (.bool false) ∧ w = w' by rw [← hdg]; exact refDigit_calls _ w))
  clear hhead hhead2 hl hdg
  go_enter Tryz.func18, Tryz.ntmps18
  go_wp2_with (first | (go_at_call 33; refine (K1.out _).mono ?_; rintro e w' ⟨rfl, rfl⟩) | (go_at_call 34; refine (K2.out _).mono ?_; rintro e w' ⟨rfl, rfl⟩) | (go_at_call 37; refine (refSigns_calls _).mono ?_; rintro e w' ⟨rfl, rfl⟩))
  clear K1 K2
  go_loopw [11] (fun i wr => ∃ k : Nat, i = .int .i64 k ∧ k ≤ 20 ∧ Hid (Lx.found 0 (s.data.toList.drop p) = Lx.found k (s.data.toList.drop p)) ∧ Hid (SignsIn w wr)) (fun i _ => 20 - (intOf i).toNat)
  case atStart => exact ⟨0, rfl, Nat.zero_le _, Lib.hid rfl, Lib.hid (SignsIn.start w)⟩
  case round =>
    obtain ⟨k, rfl, hk, hfd, hin⟩ := hrel
    obtain ⟨⟨c0, c1, c2, c3⟩, f0, f1, f2, f3⟩ := hin.out.cells
    by_cases hlt : k < 20
    · obtain ⟨x, hx0, hx1, hx2, hx3⟩ := refSigns_at k hlt
      have hcx : wr.cell? ⟨w.heap.size + 1, k, none⟩ = some (.string x) := hin.out.2.1 k _ hx0
      have hk0 : (0 : Int) ≤ (k : Int) := by omega
      have hkI : (k : Int) < 20 := by omega
      have hlx : x.data.toList.length = x.size := Lx.len x
      by_cases hg : p + x.size ≤ s.size
      · obtain ⟨y, hy⟩ : ∃ y, s.extract p (p + x.size) = y := ⟨_, rfl⟩
        have hyd : y.data.toList = (s.data.toList.drop p).take x.data.toList.length := by rw [← hy, drop_extract, hlx]
        have hy1 : s.extract p ((p : Int) + (x.size : Int)).toNat = y := by rw [show ((p : Int) + (x.size : Int)).toNat = p + x.size from by omega]; exact hy
        have hgI : (x.size : Int) ≤ (s.size : Int) - (p : Int) := by omega
        have hgd : decide ((x.size : Int) ≤ (s.size : Int) - (p : Int)) = true := decide_eq_true hgI
        have hw : IntKind.i64.wrap ((p : Int) + (x.size : Int)) = (p : Int) + (x.size : Int) := by rw [IntKind.wrap_i64]; omega
        have hw2 : IntKind.i64.wrap ((s.size : Int) - (p : Int)) = (s.size : Int) - (p : Int) := by rw [IntKind.wrap_i64]; omega
        have d1 : decide ((p : Int) < 0) = false := decide_eq_false (by omega)
        have d2 : decide ((s.size : Int) < (p : Int) + (x.size : Int)) = false := decide_eq_false (by omega)
        have d3 : decide ((p : Int) + (x.size : Int) < (p : Int)) = false := decide_eq_false (by omega)
        by_cases he : y = x
        · subst he
          have htk := HF.out _ (hfd.out.trans (Lx.found_hit hx1 hyd.symm))
          have htok := Lib.hid htk.1
          have htx := Lib.hid htk.2
          clear htk HF HL hyd hx1 hx0 hlx
          go_wp2
          go_quiet (fail)
          have hd := hin.out.drewN nq
          have h0 := Lib.hid hd.1
          have e0 := Lib.hid hd.2.2.2
          clear hd
          go_wp2
          exact refToken_end rfl rfl (four_set h0.out (.int .u8 4) (.string y) (.int .i64 0) (.int .i64 p)) (RefPost.token (k := 4) (v := 0) htok htx.out (four_below e0.out _ _ _ _))
        · have hne : (y.toList == x.toList) = false := by
            rw [beq_eq_false_iff_ne]; intro e
            exact he (WideShapes.bytes_inj (by rw [← Lib.toList_data, ← Lib.toList_data]; exact e))
          have hnext := Lib.hid (hfd.out.trans (Lx.found_miss hx1 (fun e => he (WideShapes.bytes_inj (by rw [hyd]; exact e)))))
          clear HF HL hyd hx1 hx0 hlx hfd
          clear c0 c1 c2 c3 f0 f1 f2 f3
          go_wp2
          go_quiet (fail)
          go_wp2
          refine ⟨⟨k + 1, by go_num, by omega, hnext, Lib.hid (hin.out.drewN _)⟩, ?_⟩
          simp [intOf]; omega
      · have hgd : decide ((x.size : Int) ≤ (s.size : Int) - (p : Int)) = false := decide_eq_false (by omega)
        have hw2 : IntKind.i64.wrap ((s.size : Int) - (p : Int)) = (s.size : Int) - (p : Int) := by rw [IntKind.wrap_i64]; omega
        have hnext := Lib.hid (hfd.out.trans (Lx.found_miss hx1 (fun e => by
          have h := congrArg List.length e
          rw [List.length_take, List.length_drop, Lx.len, Lx.len] at h
          omega)))
        clear HF HL hx1 hx0 hlx hfd
        clear c0 c1 c2 c3 f0 f1 f2 f3
        go_wp2
        go_quiet (fail)
        go_wp2
        refine ⟨⟨k + 1, by go_num, by omega, hnext, Lib.hid (hin.out.drewN _)⟩, ?_⟩
        simp [intOf]; omega
    · have hk20 : k = 20 := by omega
      subst hk20
      have htok := Lib.hid (HL.out (hfd.out.trans (Lx.found_end _)))
      have h0 := Lib.hid hin.out.1
      have e0 := Lib.hid hin.out.2.2.2
      clear HF HL hfd
      go_wp2
      exact refToken_end rfl rfl (four_set h0.out (.int .u8 0) (.string ⟨#[]⟩) (.int .i64 0) (.int .i64 0)) (RefPost.fault htok (four_below e0.out _ _ _ _))
end Go.Proofs.YtlkedogplmnpkaaGreatDoor
