/- What a log is asked: made, Term, Fits. Conditions: the log is in order (LSok). -/
import Derived.Test.YtpnmodkddiljeaaPure
namespace Go.Proofs.Ytpnmodkddiljeaa
open Go.RowKit Go.Proofs.YtpnmodkddiljeaaW.PrintWords PEntryPlays

structure LSok (st : LS) : Prop where
  i0 : 0 ≤ st.index
  i1 : st.index ≤ 281474976710656
  conf : confB st.conf = true
  len : st.l.length ≤ 4096
  seq : ∀ j (h : j < st.l.length), st.l[j].f0 = st.index + j + 1
  may : ∀ e, e ∈ st.l → mayE e = true

theorem LSok.last1 {st : LS} (h : LSok st) : st.last.1 = st.index + st.l.length := by
  unfold LS.last
  rw [List.getLast?_eq_getElem?]
  rcases Nat.eq_zero_or_pos st.l.length with h0 | h0
  · rw [List.getElem?_eq_none (by omega)]; simp; omega
  · rw [List.getElem?_eq_getElem (by omega)]
    have := h.seq (st.l.length - 1) (by omega)
    simp only [this]; omega

def LS.termAt (st : LS) (i : Int) : Int × Int :=
  if i < st.index then (0, 260) else if st.last.1 < i then (0, 5) else if i = st.index then (st.term, 0) else ((st.l.getD (i - st.index - 1).toNat z31).f1, 0)
def LS.fits (st : LS) (i t : Int) : Bool := decide ((st.termAt i).2 = 0) && decide ((st.termAt i).1 = t)

theorem conf_some {g T : Nat} {w : World} {ok : Nat → Prop} {lv : Value} {st : LS} (h : IsL T g w ok lv st) (hc : 1 ≤ st.conf.length) :
    ∃ ad c, st.conf.length ≤ c ∧ w.heap[g]? = some (.cells #[.int .u64 st.index, .int .u64 st.term, .slice (some ad) st.conf.length c, lv] T (0, 0)) ∧ Kd.F (Kd.int .i64) w (fun k => ok k ∧ k ≠ g ∧ some k ≠ lv.ownBlock) (some ad) st.conf.length st.conf := by
  obtain ⟨⟨cv, hb, A, c, rfl, hl, hf⟩, _⟩ := h
  obtain ⟨ad, rfl, _⟩ := (Kd.F_now hf).2.2 (by omega)
  exact ⟨ad, c, hl, hb, hf⟩

set_option maxHeartbeats 400000 in
theorem made_nil (w : World) : Calls Try.prog 36 #[.pointer none] w fun e w' => e = .returned (.bool false) ∧ w = w' := by
  go_enter Try.func36, Try.ntmps36
  go_wp2
  go_ret
  exact ⟨rfl, rfl⟩
set_option maxHeartbeats 400000 in
theorem made_any {g : Nat} {w : World} {ok : Nat → Prop} {lv : Value} {st : LS} (h : IsL 70 g w ok lv st) (hc : 1 ≤ st.conf.length) :
    Calls Try.prog 36 #[.pointer (some ⟨g, 0, none⟩)] w fun e w' => e = .returned (.bool true) ∧ w = w' := by
  obtain ⟨ad, c, _, hb, _⟩ := conf_some h hc
  have c0 := blk_cell hb
  have kq := fun w n c => run_neq_slice_nil_any (P := Try.prog) w 28 3 (some ad) n c 0 0 Try.underlying28
  clear hb h
  go_enter Try.func36, Try.ntmps36
  go_wp2
  go_ret
  exact ⟨rfl, rfl⟩

set_option maxHeartbeats 400000 in
theorem last_nil (w : World) : Calls Try.prog 14 #[.pointer none] w fun e w' => e = .returned (.tuple #[.int .u64 0, .int .u64 0]) ∧ Below w.heap.size w w' := by
  go_enter Try.func14, Try.ntmps14
  go_wp2
  go_ret2
  exact ⟨rfl, Below.refl _ _⟩
set_option maxHeartbeats 400000 in
theorem base_nil (w : World) : Calls Try.prog 18 #[.pointer none] w fun e w' => e = .returned (.tuple #[.int .u64 0, .int .u64 0]) ∧ Below w.heap.size w w' := by
  go_enter Try.func18, Try.ntmps18
  go_wp2
  go_ret2
  exact ⟨rfl, Below.refl _ _⟩
set_option maxHeartbeats 400000 in
theorem term_nil (i : Int) (w : World) : Calls Try.prog 30 #[.pointer none, .int .u64 i] w fun e w' => e = .returned (.tuple #[.int .u64 0, .int .i64 1]) ∧ Below w.heap.size w w' := by
  go_enter Try.func30, Try.ntmps30
  go_wp2_with fail
  refine (last_nil _).mono ?_
  rintro e w1 ⟨rfl, hb⟩
  go_wp2_with fail
  refine (made_nil _).mono ?_
  rintro e w' ⟨rfl, rfl⟩
  go_wp2
  go_ret2
  exact ⟨rfl, hb⟩

set_option maxHeartbeats 1000000 in
theorem term_any {g : Nat} {w : World} {ok : Nat → Prop} {lv : Value} {st : LS} (h : IsL 70 g w ok lv st) (hok : LSok st) (i : Int) :
    Calls Try.prog 30 #[.pointer (some ⟨g, 0, none⟩), .int .u64 i] w fun e w' => e = .returned (.tuple #[.int .u64 (st.termAt i).1, .int .i64 (st.termAt i).2]) ∧ Below w.heap.size w w' := by
  have hcl := (confB_len hok.conf).1
  have HL := Lib.hid (last_any h hok.len)
  have H := Lib.hid h
  have hla := hok.last1
  have hi0 := hok.i0
  have hi1 := hok.i1
  have hlen := hok.len
  by_cases h1 : i < st.index
  · have ht : st.termAt i = (0, 260) := by simp [LS.termAt, h1]
    rw [ht]
    clear hla hok hlen
    go_enter Try.func30, Try.ntmps30
    go_wp2_with fail
    refine HL.out.mono ?_
    rintro e w1 ⟨rfl, hb⟩
    have HB := Lib.hid hb
    have H1 := Lib.hid (H.out.below hb)
    go_wp2_with fail
    refine (made_any H1.out hcl).mono ?_
    rintro e w' ⟨rfl, rfl⟩
    obtain ⟨⟨cv, hb1, _⟩, _⟩ := H1.out
    have c0 := blk_cell hb1
    clear hb hb1
    go_wp2
    go_ret2
    exact ⟨rfl, HB.out⟩
  by_cases h2 : st.last.1 < i
  · have ht : st.termAt i = (0, 5) := by simp [LS.termAt, h1, h2]
    rw [ht]
    clear hla hok hlen
    generalize st.last.1 = la at *
    go_enter Try.func30, Try.ntmps30
    go_wp2_with fail
    refine HL.out.mono ?_
    rintro e w1 ⟨rfl, hb⟩
    have HB := Lib.hid hb
    have H1 := Lib.hid (H.out.below hb)
    go_wp2_with fail
    refine (made_any H1.out hcl).mono ?_
    rintro e w' ⟨rfl, rfl⟩
    obtain ⟨⟨cv, hb1, _⟩, _⟩ := H1.out
    have c0 := blk_cell hb1
    clear hb hb1
    go_wp2
    go_ret2
    exact ⟨rfl, HB.out⟩
  by_cases h3 : i = st.index
  · have ht : st.termAt i = (st.term, 0) := by simp [LS.termAt, h3]; omega
    rw [ht]
    have h3' : (i == st.index) = true := by simpa using h3
    clear hla hok hlen h3 ht
    generalize st.last.1 = la at *
    go_enter Try.func30, Try.ntmps30
    go_wp2_with fail
    refine HL.out.mono ?_
    rintro e w1 ⟨rfl, hb⟩
    have HB := Lib.hid hb
    have H1 := Lib.hid (H.out.below hb)
    go_wp2_with fail
    refine (made_any H1.out hcl).mono ?_
    rintro e w' ⟨rfl, rfl⟩
    obtain ⟨⟨cv, hb1, _⟩, _⟩ := H1.out
    have c0 := blk_cell hb1
    clear hb hb1
    go_wp2
    go_ret2
    exact ⟨rfl, HB.out⟩
  · have ht : st.termAt i = ((st.l.getD (i - st.index - 1).toNat z31).f1, 0) := by simp [LS.termAt, h1, h2, h3]
    rw [ht]
    have h3' : (i == st.index) = false := by simpa using h3
    obtain ⟨n, hn⟩ : ∃ n : Nat, i - st.index - 1 = n := ⟨(i - st.index - 1).toNat, by omega⟩
    have hnl : n < st.l.length := by omega
    rw [hn, Int.toNat_natCast, List.getD_eq_getElem?_getD, List.getElem?_eq_getElem hnl, Option.getD_some]
    go_enter Try.func30, Try.ntmps30
    go_wp2_with fail
    refine HL.out.mono ?_
    rintro e w1 ⟨rfl, hb⟩
    have HB := Lib.hid hb
    have H1 := Lib.hid (H.out.below hb)
    clear hla hok
    generalize st.last.1 = la at *
    go_wp2_with fail
    refine (made_any H1.out hcl).mono ?_
    rintro e w' ⟨rfl, rfl⟩
    obtain ⟨⟨cv, hb1, _⟩, hl1⟩ := H1.out
    obtain ⟨A, c, rfl, _⟩ := G_slice hl1
    obtain ⟨b, off, A4, c4, rfl, _, e0, e1, e2, e3, e4, _, _⟩ := G_ent hl1 n hnl
    have c0 := blk_cell hb1
    have c00 := c0 0
    have c03 := c0 3
    simp only [List.getElem?_toArray, List.getElem?_cons_succ, List.getElem?_cons_zero] at c00 c03
    have q0 : IntKind.u64.wrap (i - st.index) = i - st.index := IntWalk.u64_in _ (by omega)
    have q1 : IntKind.u64.wrap (i - st.index - 1) = n := (IntWalk.u64_in _ (by omega)).trans hn
    have q2 : (0 : Int) ≤ n := by omega
    have q3 : (n : Int) < (st.l.length : Int) := by omega
    clear hb hb1 hl1 hn e0 e2 e3 e4 h3 ht c0
    go_wp2_with fail
    go_quiet (fail)
    go_wp2
    go_ret2
    exact ⟨rfl, pw_below_drewN HB.out _⟩

set_option maxHeartbeats 400000 in
theorem fits_nil (i t : Int) (w : World) : Calls Try.prog 32 #[.pointer none, .int .u64 i, .int .u64 t] w fun e w' => e = .returned (.bool false) ∧ Below w.heap.size w w' := by
  go_enter Try.func32, Try.ntmps32
  go_wp2_with fail
  refine (term_nil i _).mono ?_
  rintro e w1 ⟨rfl, hb⟩
  have HB := Lib.hid hb
  clear hb
  go_wp2
  go_ret
  exact ⟨rfl, HB.out⟩
set_option maxHeartbeats 400000 in
theorem fits_any {g : Nat} {w : World} {ok : Nat → Prop} {lv : Value} {st : LS} (h : IsL 70 g w ok lv st) (hok : LSok st) (i t : Int) :
    Calls Try.prog 32 #[.pointer (some ⟨g, 0, none⟩), .int .u64 i, .int .u64 t] w fun e w' => e = .returned (.bool (st.fits i t)) ∧ Below w.heap.size w w' := by
  have HT := Lib.hid (term_any h hok i)
  clear h hok
  unfold LS.fits
  generalize st.termAt i = p at *
  obtain ⟨a, b⟩ := p
  dsimp only at *
  by_cases hb : b = 0
  · have hb1 : (b == 0) = true := by simpa using hb
    by_cases ha : a = t
    · have ha1 : (a == t) = true := by simpa using ha
      rw [show (decide (b = 0) && decide (a = t)) = true by simp [hb, ha]]
      clear hb ha
      go_enter Try.func32, Try.ntmps32
      go_wp2_with fail
      refine HT.out.mono ?_
      rintro e w1 ⟨rfl, hb⟩
      have HB := Lib.hid hb
      clear hb
      go_wp2
      go_ret
      exact ⟨rfl, HB.out⟩
    · have ha1 : (a == t) = false := by simpa using ha
      rw [show (decide (b = 0) && decide (a = t)) = false by simp [hb, ha]]
      clear hb ha
      go_enter Try.func32, Try.ntmps32
      go_wp2_with fail
      refine HT.out.mono ?_
      rintro e w1 ⟨rfl, hb⟩
      have HB := Lib.hid hb
      clear hb
      go_wp2
      go_ret
      exact ⟨rfl, HB.out⟩
  · have hb1 : (b == 0) = false := by simpa using hb
    rw [show (decide (b = 0) && decide (a = t)) = false by simp [hb]]
    clear hb
    go_enter Try.func32, Try.ntmps32
    go_wp2_with fail
    refine HT.out.mono ?_
    rintro e w1 ⟨rfl, hb⟩
    have HB := Lib.hid hb
    clear hb
    go_wp2
    go_ret
    exact ⟨rfl, HB.out⟩
end Go.Proofs.Ytpnmodkddiljeaa
