/- works: true. No conditions. -/
import Derived.Test.YtpnmodkddiljeaaKeep
namespace Go.Proofs.Ytpnmodkddiljeaa
open Go.RowKit Go.Proofs.YtpnmodkddiljeaaW.PrintWords Go.Proofs.YtpnmodkddiljeaaW.PrintLast PEntryPlays Go.Shelf

def noopE (i t : Int) : S31 := ⟨i, t, 1, ⟨#[]⟩, []⟩
theorem RV_empty (d : Kd Int) (w : World) (ok : Nat → Prop) (A : Option Addr) (c : Nat) : RV d w ok (.slice A 0 c) [] := ⟨A, c, rfl, Nat.zero_le _, fun _ _ => ⟨rfl, by simp, fun h => absurd h (Nat.lt_irrefl 0)⟩⟩
theorem noop_any (i t : Int) (w : World) : Calls Try.prog 10 #[.int .u64 i, .int .u64 t] w fun e w' => ∃ A c, e = .returned (.agg #[.int .u64 i, .int .u64 t, .int .u8 1, .string ⟨#[]⟩, .slice A 0 c]) ∧ Below w.heap.size w w' := by
  refine (codicillaw26_noop.calls i t _ _ _ _ _ w rfl).mono ?_
  rintro e w' ⟨v, rfl, hv, hb⟩
  obtain ⟨A, c, rfl, _⟩ := G_slice (G_of_R hv)
  exact ⟨A, c, rfl, hb⟩

/-- A row of one element, written out. -/
theorem G_one (W : World) (x : S31) (cs : List Value) (hcs : cs.length = 5) (okp : Nat → Prop) (hp : Kd.FK k31 W okp x cs) (hlt : ∀ k, okp k → k < W.heap.size) :
    G k31 31 (W.alloc (.cells cs.toArray 31)) (fun k => okp k ∨ k = W.heap.size) (.slice (some ⟨W.heap.size, 0, none⟩) 1 1) [x] := by
  refine ⟨fun k hk => .inr (by simp [Value.ownBlock] at hk; omega), cs, ⟨by rw [hcs]; rfl, .inr ⟨W.heap.size, 0, 1, cs.toArray, rfl, blk_new W _, Nat.le_refl _, by decide, by show 0 + 1 * 5 ≤ cs.toArray.size; simp [hcs], by simp [List.take_of_length_le (show cs.length ≤ k31.sz by rw [hcs]; exact Nat.le_refl _)]⟩⟩, by rw [hcs]; rfl, fun j p hj => ?_⟩
  cases j with
  | succ j => simp at hj
  | zero =>
    simp at hj
    subst hj
    rw [Nat.zero_mul, List.drop_zero, List.take_of_length_le (by rw [hcs]; exact Nat.le_refl _)]
    intro W' hW'
    refine hp W' (fun k hk hkl => ?_)
    have := hW' k ⟨.inl hk, by simp [Value.ownBlock]; have := hlt k hk; omega⟩ (by simp; omega)
    rw [this]
    exact Below.heap_alloc _ _ _ hkl

/-- A row of whole numbers, written out. -/
theorem RV_lit (W : World) (xs : List Int) (hl : xs.length ≤ 9223372036854775807) : RV (Kd.int .i64) (W.alloc (.cells (xs.map (Value.int .i64)).toArray 3)) (fun k => k = W.heap.size) (.slice (some ⟨W.heap.size, 0, none⟩) xs.length xs.length) xs := by
  refine ⟨_, _, rfl, Nat.le_refl _, fun W' hW' => ⟨rfl, hl, fun _ => ⟨_, rfl, fun j p hj => ⟨[.int .i64 p], rfl, rfl, fun i u hi => ?_⟩⟩⟩⟩
  have hb := (hW' W.heap.size rfl (by simp)).trans (blk_new W _)
  cases i with
  | succ i => simp at hi
  | zero =>
    simp at hi
    subst hi
    have hc := blk_cell hb (j * 1 + 0)
    have : (⟨W.heap.size, 0, none⟩ : Addr).add (j * (Kd.int .i64).sz + 0) = ⟨W.heap.size, j * 1 + 0, none⟩ := by
      show Addr.add _ (j * 1 + 0) = _
      unfold Addr.add
      split
      · rename_i h; rw [h]
      · simp
    rw [this, hc]
    simp [hj]

/-- A log of the call's own. -/
def Live (g : Nat) (w0 w : World) (st : LS) : Prop := LSok st ∧ w0.heap.size ≤ g ∧ Below w0.heap.size w0 w ∧ ∃ lv, IsL 70 g w (fun k => w0.heap.size ≤ k) lv st
theorem Live.below {g : Nat} {w0 w w' : World} {st : LS} (h : Live g w0 w st) (hb : Below w.heap.size w w') : Live g w0 w' st := by
  obtain ⟨h1, h2, h3, lv, h4⟩ := h
  exact ⟨h1, h2, below_then h3 h3.size hb, lv, h4.below hb⟩
theorem Live.of_left {g : Nat} {w0 w w' : World} {lv : Value} {st : LS} (h2 : w0.heap.size ≤ g) (hb : Below w0.heap.size w0 w) (hown : ∀ k, lv.ownBlock = some k → w0.heap.size ≤ k) (hok : LSok st) (h : Left 70 g w (fun k => w0.heap.size ≤ k) lv st w') : Live g w0 w' st := by
  obtain ⟨lv', h1, hf, _⟩ := h
  have hs := hb.size
  refine ⟨hok, h2, ?_, lv', h1.mono (fun k hk => hk.elim (fun h => h) (fun h => Nat.le_trans hs h))⟩
  exact (((Fr.of_below hb (fun _ => False)).trans hf (fun i hi => .inr (by rcases hi with hi | hi; omega; exact hown i hi.symm))).below (fun _ h => h.elim))
theorem IsL.own {T g : Nat} {w : World} {ok : Nat → Prop} {lv : Value} {st : LS} (h : IsL T g w ok lv st) : ∀ k, lv.ownBlock = some k → ok k ∧ k ≠ g := h.l.1

theorem live_new (i t : Int) (xs : List Int) {w : World} {ok : Nat → Prop} {cv : Value} (hr : RV (Kd.int .i64) w ok cv xs) (hn : newOk i t xs = true) :
    Calls Try.prog 8 #[.int .u64 i, .int .u64 t, cv] w fun e w' => ∃ g, e = .returned (.tuple #[.pointer (some ⟨g, 0, none⟩), .int .i64 0]) ∧ (0 ≤ i → Live g w w' ⟨i, t, xs, []⟩) := by
  refine (new_ok i t xs hr hn).mono ?_
  rintro e w' ⟨g, rfl, h1, h2, h3⟩
  simp only [newOk, Bool.and_eq_true, decide_eq_true_eq] at hn
  exact ⟨g, rfl, fun hi => ⟨⟨hi, hn.1, hn.2.2.2, by simp, fun j hj => by simp at hj, fun e he => by simp at he⟩, h1, h3, _, h2⟩⟩
theorem live_append {g : Nat} {w0 w : World} {st : LS} (h : Live g w0 w st) (x : S31) (cv : Value) {okx : Nat → Prop} (hr : RV (Kd.int .i64) w okx cv x.f4) :
    Calls Try.prog 9 #[.pointer (some ⟨g, 0, none⟩), entV x cv] w fun e w' => e = .returned (.int .i64 (st.append x).2) ∧ Live g w0 w' (st.append x).1 := by
  obtain ⟨h1, h2, h3, lv, h4⟩ := h
  exact (append_any h4 h1 x cv hr).mono fun e w' ⟨a, b⟩ => ⟨a, Live.of_left h2 h3 (fun k hk => (h4.own k hk).1) (h1.append x) b⟩
theorem live_store {g : Nat} {w0 w : World} {st : LS} (h : Live g w0 w st) (i t : Int) (hi : 0 ≤ i) (es : List S31) {ve : Value} {oke : Nat → Prop} (he : G k31 31 w oke ve es) (hg : ¬ oke g) (hl : es.length ≤ 4096) (h7 : ∀ e, e ∈ es → e.f4.length ≤ 4096) :
    Calls Try.prog 11 #[.pointer (some ⟨g, 0, none⟩), .int .u64 i, .int .u64 t, ve] w fun e w' => ∃ v, e = .returned (.tuple #[.int .u64 (st.store i t es).at_, v, .int .i64 (st.store i t es).e]) ∧
      Live g w0 w' (st.store i t es).st ∧ G k31 31 w' (fun k => w.heap.size ≤ k ∧ k ≠ g) v (st.store i t es).put := by
  obtain ⟨h1, h2, h3, lv, h4⟩ := h
  exact (store_any h4 h1 i t hi es he hg hl h7).mono fun e w' ⟨v, a, b, c⟩ => ⟨v, a, Live.of_left h2 h3 (fun k hk => (h4.own k hk).1) (h1.store hi es) b, c⟩
theorem live_compact {g : Nat} {w0 w : World} {st : LS} (h : Live g w0 w st) (i : Int) :
    Calls Try.prog 12 #[.pointer (some ⟨g, 0, none⟩), .int .u64 i] w fun e w' => e = .returned (.int .i64 (st.compact i).2) ∧ Live g w0 w' (st.compact i).1 := by
  obtain ⟨h1, h2, h3, lv, h4⟩ := h
  exact (compact_any h4 h1 i).mono fun e w' ⟨a, b⟩ => ⟨a, Live.of_left h2 h3 (fun k hk => (h4.own k hk).1) (h1.compact i) b⟩
theorem live_hint {g : Nat} {w0 w : World} {st : LS} (h : Live g w0 w st) (i : Int) : Calls Try.prog 33 #[.pointer (some ⟨g, 0, none⟩), .int .u64 i] w fun e w' => e = .returned (.int .u64 (st.hint i)) ∧ Live g w0 w' st := by
  obtain ⟨h1, h2, h3, lv, h4⟩ := h
  exact (hint_any h4 h1 i).mono fun e w' ⟨a, b⟩ => ⟨a, Live.below ⟨h1, h2, h3, lv, h4⟩ b⟩
theorem live_last {g : Nat} {w0 w : World} {st : LS} (h : Live g w0 w st) : Calls Try.prog 14 #[.pointer (some ⟨g, 0, none⟩)] w fun e w' => e = .returned (.tuple #[.int .u64 st.last.1, .int .u64 st.last.2]) ∧ Live g w0 w' st := by
  obtain ⟨h1, h2, h3, lv, h4⟩ := h
  exact (last_any h4 h1.len).mono fun e w' ⟨a, b⟩ => ⟨a, Live.below ⟨h1, h2, h3, lv, h4⟩ b⟩
theorem live_fits {g : Nat} {w0 w : World} {st : LS} (h : Live g w0 w st) (i t : Int) : Calls Try.prog 32 #[.pointer (some ⟨g, 0, none⟩), .int .u64 i, .int .u64 t] w fun e w' => e = .returned (.bool (st.fits i t)) ∧ Live g w0 w' st := by
  obtain ⟨h1, h2, h3, lv, h4⟩ := h
  exact (fits_any h4 h1 i t).mono fun e w' ⟨a, b⟩ => ⟨a, Live.below ⟨h1, h2, h3, lv, h4⟩ b⟩
theorem live_conf {g : Nat} {w0 w : World} {st : LS} (h : Live g w0 w st) : Calls Try.prog 28 #[.pointer (some ⟨g, 0, none⟩)] w fun e w' => ∃ v, e = .returned (.tuple #[v, .int .u64 (st.says st.last.1).2]) ∧ G (Kd.int .i64) 3 w' (fun k => w.heap.size ≤ k) v (st.says st.last.1).1 ∧ Live g w0 w' st ∧ Below w.heap.size w w' := by
  obtain ⟨h1, h2, h3, lv, h4⟩ := h
  exact (conf_any h4 h1).mono fun e w' ⟨v, a, b, c⟩ => ⟨v, a, b, Live.below ⟨h1, h2, h3, lv, h4⟩ c, c⟩

def st0 : LS := ⟨0, 0, [1, 2, 3], []⟩
def st1 : LS := ⟨0, 0, [1, 2, 3], [noopE 1 1]⟩
def st2 : LS := ⟨0, 0, [1, 2, 3], [noopE 1 1, noopE 2 1]⟩
def st3 : LS := ⟨0, 0, [1, 2, 3], [noopE 1 1, noopE 2 2]⟩
theorem w_a : st0.append (noopE 1 1) = (st1, 0) := by kernel_rfl
theorem w_b : st1.append (noopE 2 1) = (st2, 0) := by kernel_rfl
theorem w_h : st2.hint 2 = 1 := by kernel_rfl
theorem w_s : st2.store 1 1 [noopE 2 2] = ⟨st3, 2, [noopE 2 2], 0⟩ := by kernel_rfl
theorem w_l : st3.last = (2, 2) := by kernel_rfl
theorem w_c : st3.says 2 = ([1, 2, 3], 0) := by kernel_rfl
theorem w_f : st3.fits 2 2 = true := by kernel_rfl
theorem w_g : st3.fits 2 1 = false := by kernel_rfl
theorem w_i : st3.hint 9 = 3 := by kernel_rfl

set_option maxHeartbeats 2000000 in
set_option maxRecDepth 100000 in
theorem works_any (w : World) : Calls Try.prog 13 #[] w fun e w' => e = .returned (.bool true) ∧ Below w.heap.size w w' := by
  go_enter Try.func13, Try.ntmps13
  go_wp2_with fail
  refine (live_new 0 0 [1, 2, 3] (RV_lit w [1, 2, 3] (by decide)) (by kernel_rfl)).mono ?_
  rintro e w1 ⟨g, rfl, hL⟩
  have hL0 := hL (Int.le_refl _)
  have HL := Lib.hid (show Live g w w1 st0 from by
    obtain ⟨h1, h2, h3, lv, h4⟩ := hL0
    exact ⟨h1, by simp at h2; omega, below_then (below_alloc (Below.refl _ _) _) (by simp) h3, lv, h4.mono (fun k hk => by simp at hk; omega)⟩)
  clear hL hL0
  go_wp2_with fail
  refine (noop_any 1 1 w1).mono ?_
  rintro e w2 ⟨A2, c2, rfl, hb⟩
  have HL2 := Lib.hid (HL.out.below hb)
  clear hb
  go_wp2_with fail
  refine (live_append HL2.out (noopE 1 1) (.slice A2 0 c2) (RV_empty _ _ (fun _ => True) A2 c2)).mono ?_
  rw [w_a]
  rintro e w3 ⟨rfl, h3⟩
  have HL3 := Lib.hid h3
  clear h3
  go_wp2_with fail
  refine (noop_any 2 1 w3).mono ?_
  rintro e w4 ⟨A4, c4, rfl, hb⟩
  have HL4 := Lib.hid (HL3.out.below hb)
  clear hb
  go_wp2_with fail
  refine (live_append HL4.out (noopE 2 1) (.slice A4 0 c4) (RV_empty _ _ (fun _ => True) A4 c4)).mono ?_
  rw [w_b]
  rintro e w5 ⟨rfl, h5⟩
  have HL5 := Lib.hid h5
  clear h5
  go_wp2_with fail
  refine (live_hint HL5.out 2).mono ?_
  rw [w_h]
  rintro e w6 ⟨rfl, h6⟩
  have HL6 := Lib.hid h6
  clear h6
  go_wp2_with fail
  refine (noop_any 2 2 w6).mono ?_
  rintro e w7 ⟨A7, c7, rfl, hb⟩
  have HL7 := Lib.hid (HL6.out.below hb)
  clear hb
  go_wp2_with fail
  have hG := G_one w7 (noopE 2 2) _ rfl (fun _ => False) (k31_mkF w7 (fun _ => False) (noopE 2 2) (A4 := A7) (c4 := c7) (Nat.zero_le _) (fun _ _ => ⟨rfl, by simp [noopE], fun h => absurd h (Nat.lt_irrefl 0)⟩)) (fun _ h => h.elim)
  have hgw : g < w7.heap.size := by obtain ⟨_, _, _, lv, h⟩ := HL7.out; exact h.lt
  have HL8 := Lib.hid (HL7.out.below (below_alloc (Below.refl _ w7) (.cells #[.int .u64 2, .int .u64 2, .int .u8 1, .string ⟨#[]⟩, .slice A7 0 c7] 31)))
  refine (live_store HL8.out 1 1 (by decide) [noopE 2 2] hG (by rintro (h | h); exact h; omega) (by decide) (by intro e he; rw [List.mem_singleton.1 he]; decide)).mono ?_
  rw [w_s]
  rintro e w9 ⟨v9, rfl, h9, hG9⟩
  obtain ⟨A9, c9, rfl, _⟩ := G_slice hG9
  have HL9 := Lib.hid h9
  clear h9 hG hG9 hgw
  go_wp2_with fail
  refine (live_last HL9.out).mono ?_
  rw [w_l]
  rintro e w10 ⟨rfl, h10⟩
  have HL10 := Lib.hid h10
  clear h10
  go_wp2_with fail
  refine (live_conf HL10.out).mono ?_
  rw [w_l, w_c]
  rintro e w11 ⟨v11, rfl, hG11, h11, _⟩
  obtain ⟨A11, c11, rfl, _⟩ := G_slice hG11
  have HL11 := Lib.hid h11
  clear h11 hG11
  go_wp2_with fail
  refine (live_fits HL11.out 2 2).mono ?_
  rw [w_f]
  rintro e w12 ⟨rfl, h12⟩
  have HL12 := Lib.hid h12
  clear h12
  go_wp2_with fail
  refine (live_fits HL12.out 2 1).mono ?_
  rw [w_g]
  rintro e w13 ⟨rfl, h13⟩
  have HL13 := Lib.hid h13
  clear h13
  go_wp2_with fail
  refine (live_hint HL13.out 9).mono ?_
  rw [w_i]
  rintro e w14 ⟨rfl, h14⟩
  have HL14 := Lib.hid h14
  clear h14
  go_wp2
  go_ret
  obtain ⟨_, _, h, _⟩ := HL14.out
  exact ⟨rfl, h⟩
end Go.Proofs.Ytpnmodkddiljeaa
