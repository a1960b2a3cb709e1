/- 
  The document's own 'Tokens': which tokens a source has, or which fault.
-/
import Derived.Test.YtlkedogplmnpkaaGreatDoorLexRf
import Derived.Test.YtlkedogplmnpkaaGreatDoorLexU
namespace Go.Proofs.YtlkedogplmnpkaaGreatDoor
open Go.RowKit

/-- The whole of the document's token. -/
theorem refToken_calls (s : ByteArray) (p : Nat) (w : World) (hs : s.size ≤ 65536) (hp : p < s.size) :
    Calls Tryz.prog 18 #[.string s, .int .i64 p] w (RefPost (s.data.toList.drop p) p w) := by
  cases hl : Lx.letter s[p] with
  | true => exact refToken_letter s p w hs hp hl
  | false =>
    cases hd : Lx.digit s[p] with
    | true => exact refToken_digit s p w hs hp hl hd
    | false => exact refToken_sign s p w hs hp hl hd
theorem Lx.tok_err {l : List UInt8} {c : Nat} (h : Lx.tok l = .error c) : 0 < c ∧ c ≤ 32 := by
  unfold Lx.tok at h
  repeat' split at h
  all_goals first | (injection h with h; omega) | cases h
theorem refToken_bad (s : ByteArray) (a : Nat) (hs : s.size ≤ 65536) (ha : a < s.size) {c : Nat} (h : Lx.tok (s.data.toList.drop a) = .error c) (w : World) :
    Calls Tryz.prog 18 #[.string s, .int .i64 a] w fun e w' => ∃ k x v q, e = .returned (.tuple #[.agg #[.int .u8 k, .string x, .int .i64 v, .int .i64 q], .int .i64 c]) ∧ Below w.heap.size w w' := by
  refine (refToken_calls s a w hs ha).mono ?_
  rintro e w' ⟨hb, h2⟩
  rw [h] at h2
  obtain ⟨k, x, v, q, he⟩ := h2
  exact ⟨k, x, v, q, he, hb⟩
theorem refToken_good (s : ByteArray) (a : Nat) (hs : s.size ≤ 65536) (ha : a < s.size) {k m v : Nat} (h : Lx.tok (s.data.toList.drop a) = .ok (k, m, v)) (w : World) :
    Calls Tryz.prog 18 #[.string s, .int .i64 a] w fun e w' => e = .returned (.tuple #[.agg #[.int .u8 k, .string ⟨((s.data.toList.drop a).take m).toArray⟩, .int .i64 v, .int .i64 a], .int .i64 0]) ∧ Below w.heap.size w w' := by
  refine (refToken_calls s a w hs ha).mono ?_
  rintro e w' ⟨hb, h2⟩
  rw [h] at h2
  exact ⟨h2, hb⟩
/-- What the document's Tokens hands back: the tokens in memory of its own and no fault, or no token and the fault. -/
def RefToks (l : List UInt8) (w : World) (e : Ending) (w' : World) : Prop :=
  Below w.heap.size w w' ∧ match Lx.tokens l with
    | .error (p, c) => e = .returned (.tuple #[.slice none 0 0, .agg #[.int .i64 p, .int .i64 c]])
    | .ok ts => ∃ v, e = .returned (.tuple #[v, .agg #[.int .i64 0, .int .i64 0]]) ∧ w'.ownsRow w.heap.size 39 4 v ts.length (cellsOf ts)
theorem RefToks.fault {l : List UInt8} {w w' : World} {p c : Nat} (h : Hid (Lx.tokens l = .error (p, c))) (hb : Below w.heap.size w w') :
    RefToks l w (.returned (.tuple #[.slice none 0 0, .agg #[.int .i64 p, .int .i64 c]])) w' := ⟨hb, by rw [h.out]⟩
theorem RefToks.tokens {l : List UInt8} {w w' : World} {ts : List Lx.T} {v : Value} {n : Nat} (h : Hid (Lx.tokens l = .ok ts)) (hb : Below w.heap.size w w') (hn : n = ts.length) (ho : w'.ownsRow w.heap.size 39 4 v n (cellsOf ts)) :
    RefToks l w (.returned (.tuple #[v, .agg #[.int .i64 0, .int .i64 0]])) w' := ⟨hb, by rw [h.out]; subst hn; exact ⟨v, rfl, ho⟩⟩
theorem own_less {w : World} {base base2 : Nat} {e : TypeId} {size n : Nat} {v : Value} {xs : List Value} (h : w.ownsRow base e size v n xs) (hb : base2 ≤ base) : w.ownsRow base2 e size v n xs := by
  obtain ⟨h1, h2⟩ := h
  refine ⟨h1, ?_⟩
  rcases h2 with h2 | ⟨g, cap, cur, h3, h4, h5, h6⟩
  · exact .inl h2
  · exact .inr ⟨g, cap, cur, h3, Nat.le_trans hb h4, h5, h6⟩
theorem own_set {w : World} {base : Nat} {e : TypeId} {size n : Nat} {v : Value} {xs : List Value} (h : w.ownsRow base e size v n xs) {p : Addr} (hp : p.block < base) (u : Value) : (w.setCell p u).ownsRow base e size v n xs := by
  obtain ⟨h1, h2⟩ := h
  refine ⟨h1, ?_⟩
  rcases h2 with h2 | ⟨g, cap, cur, h3, h4, h5, h6⟩
  · exact .inl h2
  · exact .inr ⟨g, cap, cur, h3, h4, by rw [Below.heap_setCell _ _ _ _ (by omega)]; exact h5, h6⟩
theorem refTokens_end {l : List UInt8} {w W : World} {tmps : Array Value} {g : Nat} {v a b : Value} (h2 : tmps.getD 2 undef = v) (h3 : tmps.getD 3 undef = .pointer (some ⟨g, 0, none⟩))
    (hB : W.heap[g]? = some (.cells #[a, b] 30 (0, 0))) (hpost : RefToks l w (.returned (.tuple #[v, .agg #[a, b]])) W) :
    bodyPost Tryz.prog Tryz.f7 (RefToks l w) Exit.ret { tmps := tmps, defers := [] } W := by
  have c0 := cell_of_row W g 0 _ _ _ hB
  have c1 := cell_of_row W g 1 _ _ _ hB
  refine bodyPost_ret (v := .tuple #[v, .agg #[a, b]]) ?_ rfl hpost
  simp only [Array.getD_eq_getD_getElem?] at h2 h3
  simp [results, Tryz.results7, go_sem, h2, h3, c0, c1]
theorem two_set {W : World} {g : Nat} {t : TypeId} {a b : Value} (h0 : W.heap[g]? = some (.cells #[a, b] t (0, 0))) (x0 x1 : Value) :
    ((W.setCell ⟨g, 0, none⟩ x0).setCell ⟨g, 1, none⟩ x1).heap[g]? = some (.cells #[x0, x1] t (0, 0)) := block_set (block_set h0 0 x0) 1 x1
theorem two_below {w W : World} {g : Nat} (e0 : Below g w W) (x0 x1 : Value) : Below g w ((W.setCell ⟨g, 0, none⟩ x0).setCell ⟨g, 1, none⟩ x1) :=
  (e0.setCell (p := ⟨g, 0, none⟩) (Nat.le_refl _) x0).setCell (p := ⟨g, 1, none⟩) (Nat.le_refl _) x1
theorem refTokens_long (s : ByteArray) (w : World) (hs : 65536 < s.size) :
    Calls Tryz.prog 7 #[.string s] w (RefToks s.data.toList w) := by
  have ht : Hid (Lx.tokens s.data.toList = .error (65536, 4)) := Lib.hid (by unfold Lx.tokens; rw [if_pos (by rw [Lx.len]; omega)])
  go_enter Tryz.func7, Tryz.ntmps7
  go_wp2
  exact refTokens_end rfl rfl (heap_alloc_new w _) (RefToks.fault ht (boxes w _ _))
/-- What the loop keeps: the fault's two cells, and all that was there. -/
def FaultIn (w wr : World) : Prop :=
  wr.heap[w.heap.size]? = some (.cells #[.int .i64 0, .int .i64 0] 30 (0, 0)) ∧ w.heap.size < wr.heap.size ∧ Below w.heap.size w wr
theorem FaultIn.start (w : World) : FaultIn w (w.alloc (.cells #[.int .i64 0, .int .i64 0] 30)) :=
  ⟨heap_alloc_new w _, by simp, boxes w _ _⟩
theorem FaultIn.below {w wr w2 : World} (h : FaultIn w wr) (hb : Below wr.heap.size wr w2) : FaultIn w w2 :=
  ⟨(hb.block w.heap.size h.2.1).trans h.1, Nat.lt_of_lt_of_le h.2.1 hb.size, h.2.2.trans (hb.mono h.2.2.size)⟩
theorem FaultIn.alloc {w wr : World} (h : FaultIn w wr) (o : Obj) : FaultIn w (wr.alloc o) := h.below ((Below.refl _ _).alloc (Nat.le_refl _) _)
theorem FaultIn.cells {w wr : World} (h : FaultIn w wr) : (wr.cell? ⟨w.heap.size, 0, none⟩ = some (.int .i64 0) ∧ wr.cell? ⟨w.heap.size, 1, none⟩ = some (.int .i64 0)) ∧ wr.frozen? ⟨w.heap.size, 0, none⟩ = false ∧ wr.frozen? ⟨w.heap.size, 1, none⟩ = false :=
  ⟨⟨cell_of_row _ _ 0 _ _ _ h.1, cell_of_row _ _ 1 _ _ _ h.1⟩, frozen_of_row _ _ 0 h.1, frozen_of_row _ _ 1 h.1⟩
theorem FaultIn.grown {w wr w3 : World} {v : Value} {n : Nat} {xs : List Value} (hF : FaultIn w wr) (hown : wr.ownsRow (w.heap.size + 1) 39 4 v n xs) (hg : wr.grownBy w3 (Value.ownBlock v)) : FaultIn w w3 := by
  have hne : some w.heap.size ≠ Value.ownBlock v := by
    intro h
    have := own_base hown _ h.symm
    omega
  have hb : Below w.heap.size w w3 := hF.2.2.grown hg hF.2.2.size (fun k hk => by have := own_base hown k hk; omega)
  have h1 := (hg.block w.heap.size hF.2.1 hne).trans hF.1
  exact ⟨h1, (Array.getElem?_eq_some_iff.1 h1).1, hb⟩
/-- What one append leaves: the fault's cells, and the variable that was laid ahead of it. -/
theorem appendedF {w wr w2 w3 : World} {A : Option Addr} {n c : Nat} {xs : List Value} {o1 o2 : Obj} (hF : FaultIn w wr) (hown2 : w2.ownsRow (w.heap.size + 1) 39 4 (.slice A n c) n xs) (hb : Below wr.heap.size wr w2)
    (hg : ((w2.alloc o1).alloc o2).grownBy w3 (Value.ownBlock (.slice A n c))) : FaultIn w w3 ∧ w3.heap[w2.heap.size]? = some o1 := by
  constructor
  · exact (((hF.below hb).alloc o1).alloc o2).grown ((hown2.alloc _).alloc _) hg
  · have e : some w2.heap.size ≠ Value.ownBlock (.slice A n c) := by
      intro h
      have := ownBlock_lt hown2 _ h.symm
      omega
    rw [hg.block w2.heap.size (by simp; omega) e, Below.heap_alloc _ _ _ (by simp), heap_alloc_new]

set_option maxHeartbeats 1000000 in
set_option maxRecDepth 100000 in
theorem refTokens_short (s : ByteArray) (w : World) (hs : s.size ≤ 65536) :
    Calls Tryz.prog 7 #[.string s] w (RefToks s.data.toList w) := by
  have hM : s.size ≤ maxLen := by unfold maxLen; omega
  obtain ⟨i0, hi, hz0, hz1, hz2⟩ := info_parts infoTok
  have hsk := Lx.skip_le false s.data.toList
  rw [Lx.len] at hsk
  obtain ⟨a0, ha0⟩ : ∃ a0, Lx.skip false s.data.toList = a0 := ⟨_, rfl⟩
  rw [ha0] at hsk
  have hall : Hid (Lx.tokens s.data.toList = Lx.after [] (Lx.toks (s.size + 1) (s.data.toList.drop a0) a0 0)) := Lib.hid (by
    unfold Lx.tokens
    rw [if_neg (by rw [Lx.len]; omega), ha0, Lx.after_nil, Lx.len])
  have KS := Lib.hid (fun w : World => (show Calls Tryz.prog 17 #[.string s, .int .i64 0] w fun e w' => e = .returned (.int .i64 a0) ∧ w = w' by
    refine (refAfter_calls s 0 w hs (by omega)).mono ?_
    rintro e w' ⟨rfl, rfl⟩
    refine ⟨ret_i64 ?_, rfl⟩
    simp [ha0]))
  clear ha0
  go_enter Tryz.func7, Tryz.ntmps7
  go_wp2_with (go_at_call 17; refine (KS.out _).mono ?_; rintro e w' ⟨rfl, rfl⟩)
  clear KS
  go_loopw [4, 5] (fun v i wr => ∃ (f a : Nat) (acc : List Lx.T), a ≤ s.size ∧ i = .int .i64 a ∧ wr.ownsRow (w.heap.size + 1) 39 4 v acc.length (cellsOf acc) ∧ acc.length ≤ 16383 ∧ s.size < f + a ∧
      Hid (Lx.tokens s.data.toList = Lx.after acc (Lx.toks f (s.data.toList.drop a) a acc.length)) ∧ Hid (FaultIn w wr))
    (fun _ i _ => s.size - (intOf i).toNat)
  case atStart => exact ⟨s.size + 1, a0, [], hsk, rfl, World.ownsRow_nil _ _ _ _, by simp, by omega, hall, Lib.hid (FaultIn.start w)⟩
  case round =>
    obtain ⟨f, a, acc, hle, rfl, hown, hacc, hf, hrest, hF⟩ := hrel
    obtain ⟨A, c, rfl⟩ := own_slice hown
    obtain ⟨f, rfl⟩ : ∃ f', f = f' + 1 := ⟨f - 1, by omega⟩
    by_cases hlt : a < s.size
    · have hne : s.data.toList.drop a ≠ [] := by rw [Lx.drop_cons s a hlt]; simp
      cases htok : Lx.tok (s.data.toList.drop a) with
      | error n =>
        have K := Lib.hid (refToken_bad s a hs hlt htok)
        have hn := Lx.tok_err htok
        have hnI : ¬ (n : Int) = 0 := by omega
        have hres : Hid (Lx.tokens s.data.toList = .error (a, n)) := Lib.hid (by rw [hrest.out, Lx.toks_bad hne htok]; rfl)
        clear htok hne
        go_wp2_with (go_at_call 18; refine (K.out _).mono ?_; rintro e w2 ⟨k1, x1, v1, q1, rfl, hb⟩; have hF2 := Lib.hid (hF.out.below hb); obtain ⟨⟨c0, c1⟩, f0, f1⟩ := (hF.out.below hb).cells; have hz := (hF.out.below hb).2.1)
        exact refTokens_end rfl rfl ((Below.heap_alloc _ _ w.heap.size (by simpa using hz)).trans (two_set hF2.out.1 _ _)) (RefToks.fault hres ((two_below hF2.out.2.2 _ _).alloc (by simpa using Nat.le_of_lt hz) _))
      | ok x =>
        obtain ⟨k, m, v⟩ := x
        have K := Lib.hid (refToken_good s a hs hlt htok)
        have hm := Lx.tok_pos hne htok
        rw [List.length_drop, Lx.len] at hm
        have htl : ((s.data.toList.drop a).take m).length = m := by rw [List.length_take, List.length_drop, Lx.len]; omega
        obtain ⟨x, hx⟩ : ∃ x : ByteArray, x = ⟨((s.data.toList.drop a).take m).toArray⟩ := ⟨_, rfl⟩
        have hxs : x.size = m := by rw [hx]; show (List.toArray _).size = m; rw [List.size_toArray, htl]
        rw [← hx] at K
        have hcells : Hid (tokCells ⟨k, (s.data.toList.drop a).take m, v, a⟩ = [.int .u8 k, .string x, .int .i64 v, .int .i64 a]) := Lib.hid (by rw [hx]; rfl)
        clear hx
        by_cases hfull : acc.length + 1 < 16384
        · have hmore := Lib.hid (Lx.toks_more hne htok f a acc.length hfull acc)
          have hsk := Lx.skip_le false ((s.data.toList.drop a).drop m)
          rw [List.length_drop, List.length_drop, Lx.len] at hsk
          obtain ⟨b, hb⟩ : ∃ b, b = Lx.skip false ((s.data.toList.drop a).drop m) := ⟨_, rfl⟩
          rw [← hb] at hsk
          have HB := Lib.hid hb
          have KS := Lib.hid (fun w : World => (show Calls Tryz.prog 17 #[.string s, .int .i64 ((a : Int) + x.size)] w fun e w' => e = .returned (.int .i64 ((a : Int) + x.size + b)) ∧ w = w' by
            rw [hxs, show ((a : Int) + (m : Int)) = ((a + m : Nat) : Int) from by omega]
            refine (refAfter_calls s (a + m) w hs (by omega)).mono ?_
            rintro e w' ⟨rfl, rfl⟩
            refine ⟨ret_i64 ?_, rfl⟩
            rw [hb, List.drop_drop]
            omega))
          have HX := Lib.hid hxs
          have hxb : x.size + b + a ≤ s.size := by omega
          have hx0 : 0 < x.size := by omega
          clear hm hsk
          clear htok hne hb htl hxs
          go_wp2_with (first
            | (go_at_call 18; refine (K.out _).mono ?_; rintro e w2 ⟨rfl, hb⟩; have hown2 := own_below hown hb; have hz := (hF.out.below hb).2.1)
            | (at_builtin; refine wpList_append_own _ rfl _ _ 23 rfl (w.heap.size + 1) 39 i0 _ 4 40 Tryz.underlying23 hi hz0 hz1 hz2 rfl (by decide) _ _ _ rfl ((hown2.alloc _).alloc _) ⟨w2.heap.size + 1, 0, none⟩ 1 1 [.int .u8 k, .string x, .int .i64 v, .int .i64 a] rfl rfl (news4 _ _ (by simp) _ _ _ _ _) (one4 _ _ _ _ ⟨rfl, rfl, rfl, rfl⟩) (by unfold maxLen; omega) (by omega) (by simp; omega) ?_; intro v' w3 hown3 hgrow3 _; have happ := appendedF hF.out hown2 hb hgrow3; have hc1 : w3.cell? ⟨w2.heap.size, 1, none⟩ = some (.string x) := (cell_of_row w3 _ 1 _ _ _ happ.2).trans rfl; have HAPP := Lib.hid happ; clear happ hgrow3)
            | (go_at_call 17; refine (KS.out _).mono ?_; rintro e w' ⟨rfl, rfl⟩))
          go_roundw
          case rel =>
            refine ⟨f, a + x.size + b, acc ++ [⟨k, (s.data.toList.drop a).take m, v, a⟩], by omega, by go_num, ?_, by simp; omega, by omega, Lib.hid ?_, Lib.hid HAPP.out.1⟩
            · rw [cellsOf_snoc, hcells.out, List.length_append]
              exact hown3
            · rw [hrest.out, hmore.out, ← HB.out, List.drop_drop, List.drop_drop, List.length_append, HX.out, show a + (m + b) = a + m + b from by omega]
              rfl
          case measure => simp [intOf]; omega
        · have hres : Hid (Lx.tokens s.data.toList = .error (a, 6)) := Lib.hid (by rw [hrest.out, Lx.toks_full hne htok _ _ _ (by omega)]; rfl)
          clear htok hne
          go_wp2_with (go_at_call 18; refine (K.out _).mono ?_; rintro e w2 ⟨rfl, hb⟩; have hF2 := Lib.hid (hF.out.below hb); obtain ⟨⟨c0, c1⟩, f0, f1⟩ := (hF.out.below hb).cells; have hz := (hF.out.below hb).2.1)
          exact refTokens_end rfl rfl ((Below.heap_alloc _ _ w.heap.size (by simpa using hz)).trans (two_set hF2.out.1 _ _)) (RefToks.fault hres ((two_below hF2.out.2.2 _ _).alloc (by simpa using Nat.le_of_lt hz) _))
    · have ha : a = s.size := by omega
      have hres : Hid (Lx.tokens s.data.toList = .ok (acc ++ [⟨0, [], 0, a⟩])) := Lib.hid (by rw [hrest.out, Lx.drop_end s a (by omega)]; rfl)
      subst ha
      have hz := hF.out.2.1
      go_wp2_with (at_builtin; refine wpList_append_own _ rfl _ _ 23 rfl (w.heap.size + 1) 39 i0 _ 4 40 Tryz.underlying23 hi hz0 hz1 hz2 rfl (by decide) _ _ _ rfl (hown.alloc _) ⟨wr.heap.size, 0, none⟩ 1 1 [.int .u8 0, .string ⟨#[]⟩, .int .i64 0, .int .i64 s.size] rfl rfl (news4 _ _ rfl _ _ _ _ _) (one4 _ _ _ _ ⟨rfl, rfl, rfl, rfl⟩) (by unfold maxLen; omega) (by omega) (by simp; omega) ?_; intro v' w3 hown3 hgrow3 _; have hF3 := Lib.hid ((hF.out.alloc _).grown (hown.alloc _) hgrow3); obtain ⟨⟨c0, c1⟩, f0, f1⟩ := hF3.out.cells)
      exact refTokens_end rfl rfl (two_set hF3.out.1 _ _) (RefToks.tokens hres (two_below hF3.out.2.2 _ _) (n := acc.length + 1) (by simp) (own_less (own_set (own_set (by rw [cellsOf_snoc]; exact hown3) (by simp) _) (by simp) _) (by omega)))
theorem refTokens_calls (s : ByteArray) (w : World) : Calls Tryz.prog 7 #[.string s] w (RefToks s.data.toList w) := by
  by_cases h : 65536 < s.size
  · exact refTokens_long s w h
  · exact refTokens_short s w (by omega)
end Go.Proofs.YtlkedogplmnpkaaGreatDoor
