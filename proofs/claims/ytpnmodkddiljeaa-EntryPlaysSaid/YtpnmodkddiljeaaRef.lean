/- The document's log: Last, TermAt, Fits, ConfAt, Hint, Append, Compact, Slice, New. Conditions: the log is in order. -/
import Derived.Test.YtpnmodkddiljeaaComp
namespace Go.Proofs.Ytpnmodkddiljeaa
open Go.RowKit Go.Proofs.YtpnmodkddiljeaaW.PrintWords PEntryPlays

set_option maxHeartbeats 400000 in
theorem rlast_any {g : Nat} {w : World} {ok : Nat → Prop} {lv : Value} {st : LS} (h : IsL 76 g w ok lv st) (hlen : st.l.length ≤ 4096) :
    Calls Try.prog 43 #[.pointer (some ⟨g, 0, none⟩)] w fun e w' => e = .returned (.tuple #[.int .u64 st.last.1, .int .u64 st.last.2]) ∧ Below w.heap.size w w' := by
  obtain ⟨⟨cv, hb, hc⟩, hl⟩ := h
  obtain ⟨A, c, rfl, hlc⟩ := G_slice hl
  have c0 := blk_cell hb
  clear hc
  rcases Nat.eq_zero_or_pos st.l.length with h0 | h0
  · have hla : st.last = (st.index, st.term) := by
      have : st.l = [] := List.eq_nil_of_length_eq_zero h0
      simp [LS.last, this]
    rw [hla]
    rw [h0] at c0
    clear hl hb hlc hlen h0
    go_enter Try.func43, Try.ntmps43
    go_wp2_with fail
    go_quiet (fail)
    go_wp2
    go_ret2
    exact ⟨rfl, pw_below_drewN (Below.refl _ _) _⟩
  · obtain ⟨n, hn⟩ : ∃ n, st.l.length = n + 1 := ⟨st.l.length - 1, by omega⟩
    obtain ⟨b, off, A4, c4, rfl, _, e0, e1, e2, e3, e4, _, _⟩ := G_ent hl n (by omega)
    have hla : st.last = (st.l[n].f0, st.l[n].f1) := by
      have : st.l.getLast? = some st.l[n] := by rw [List.getLast?_eq_getElem?, show st.l.length - 1 = n by omega]; exact List.getElem?_eq_getElem _
      simp [LS.last, this]
    rw [hla]
    generalize st.l[n] = x at *
    rw [hn] at c0
    clear hl hb hla
    have q1 : IntKind.i64.wrap ((n : Int) + 1 - 1) = n := IntWalk.i64_in _ (by omega) |>.trans (by omega)
    have q4 : IntKind.i64.wrap (n : Int) = n := IntWalk.i64_in _ (by omega)
    have q2 : (0 : Int) ≤ n := by omega
    have q3 : (n : Int) < n + 1 := by omega
    have d3 := c0 3
    simp only [List.getElem?_toArray, List.getElem?_cons_succ, List.getElem?_cons_zero] at d3
    clear hn hlc
    go_enter Try.func43, Try.ntmps43
    go_wp2_with fail
    go_region_held3 (fun w' => w'.cell? ⟨g, 3, none⟩ = some (.slice (some ⟨b, off, none⟩) (n + 1) c) ∧ w'.cell? ⟨b, off + n * 5, none⟩ = some (.int .u64 x.f0) ∧ w'.cell? ⟨b, off + n * 5 + 1, none⟩ = some (.int .u64 x.f1) ∧ w'.cell? ⟨b, off + n * 5 + 2, none⟩ = some (.int .u8 x.f2) ∧ w'.cell? ⟨b, off + n * 5 + 3, none⟩ = some (.string x.f3) ∧ w'.cell? ⟨b, off + n * 5 + 4, none⟩ = some (.slice A4 x.f4.length c4)) (go_keep) (fail)
    all_goals
      go_wp2_with fail
      go_quiet (fail)
      go_wp2
      go_ret2
      exact ⟨rfl, pw_below_drewN (below_drew (below_alloc (Below.refl _ _) _)) _⟩

set_option maxHeartbeats 1000000 in
theorem rterm_any {g : Nat} {w : World} {ok : Nat → Prop} {lv : Value} {st : LS} (h : IsL 76 g w ok lv st) (hok : LSok st) (i : Int) :
    Calls Try.prog 45 #[.pointer (some ⟨g, 0, none⟩), .int .u64 i] w fun e w' => e = .returned (.tuple #[.int .u64 (st.termAt i).1, .int .i64 (st.termAt i).2]) ∧ Below w.heap.size w w' := by
  have HL := Lib.hid (rlast_any h hok.len)
  have H := Lib.hid h
  have hla := hok.last1
  have hi0 := hok.i0
  have hi1 := hok.i1
  have hlen := hok.len
  by_cases h1 : i < st.index
  · have ht : st.termAt i = (0, 260) := by simp [LS.termAt, h1]
    rw [ht]
    clear hla hok hlen
    go_enter Try.func45, Try.ntmps45
    go_wp2_with fail
    refine HL.out.mono ?_
    rintro e w1 ⟨rfl, hb⟩
    have HB := Lib.hid hb
    obtain ⟨⟨cv, hb1, _⟩, _⟩ := H.out.below hb
    have c0 := blk_cell hb1
    clear hb hb1
    go_wp2
    go_ret2
    exact ⟨rfl, HB.out⟩
  by_cases h2 : st.last.1 < i
  · have ht : st.termAt i = (0, 5) := by simp [LS.termAt, h1, h2]
    rw [ht]
    clear hla hok hlen
    generalize st.last.1 = la at *
    go_enter Try.func45, Try.ntmps45
    go_wp2_with fail
    refine HL.out.mono ?_
    rintro e w1 ⟨rfl, hb⟩
    have HB := Lib.hid hb
    obtain ⟨⟨cv, hb1, _⟩, _⟩ := H.out.below hb
    have c0 := blk_cell hb1
    clear hb hb1
    go_wp2
    go_ret2
    exact ⟨rfl, HB.out⟩
  by_cases h3 : i = st.index
  · have ht : st.termAt i = (st.term, 0) := by simp [LS.termAt, h3]; omega
    rw [ht]
    have h3' : (i == st.index) = true := by simpa using h3
    clear hla hok hlen h3 ht
    generalize st.last.1 = la at *
    go_enter Try.func45, Try.ntmps45
    go_wp2_with fail
    refine HL.out.mono ?_
    rintro e w1 ⟨rfl, hb⟩
    have HB := Lib.hid hb
    obtain ⟨⟨cv, hb1, _⟩, _⟩ := H.out.below hb
    have c0 := blk_cell hb1
    clear hb hb1
    go_wp2
    go_ret2
    exact ⟨rfl, HB.out⟩
  · have ht : st.termAt i = ((st.l.getD (i - st.index - 1).toNat z31).f1, 0) := by simp [LS.termAt, h1, h2, h3]
    rw [ht]
    have h3' : (i == st.index) = false := by simpa using h3
    obtain ⟨n, hn⟩ : ∃ n : Nat, i - st.index - 1 = n := ⟨(i - st.index - 1).toNat, by omega⟩
    have hnl : n < st.l.length := by omega
    rw [hn, Int.toNat_natCast, List.getD_eq_getElem?_getD, List.getElem?_eq_getElem hnl, Option.getD_some]
    go_enter Try.func45, Try.ntmps45
    go_wp2_with fail
    refine HL.out.mono ?_
    rintro e w1 ⟨rfl, hb⟩
    have HB := Lib.hid hb
    have H1 := Lib.hid (H.out.below hb)
    clear hla hok
    generalize st.last.1 = la at *
    obtain ⟨⟨cv, hb1, _⟩, hl1⟩ := H1.out
    obtain ⟨A, c, rfl, _⟩ := G_slice hl1
    obtain ⟨b, off, A4, c4, rfl, _, e0, e1, e2, e3, e4, _, _⟩ := G_ent hl1 n hnl
    have c0 := blk_cell hb1
    have c00 := c0 0
    have c03 := c0 3
    simp only [List.getElem?_toArray, List.getElem?_cons_succ, List.getElem?_cons_zero] at c00 c03
    have q0 : IntKind.u64.wrap (i - st.index) = i - st.index := IntWalk.u64_in _ (by omega)
    have q1 : IntKind.u64.wrap (i - st.index - 1) = n := (IntWalk.u64_in _ (by omega)).trans hn
    have q2 : (0 : Int) ≤ n := by omega
    have q3 : (n : Int) < (st.l.length : Int) := by omega
    clear hb hb1 hl1 hn e0 e2 e3 e4 h3 ht c0
    go_wp2_with fail
    go_quiet (fail)
    go_wp2
    go_ret2
    exact ⟨rfl, pw_below_drewN HB.out _⟩

set_option maxHeartbeats 400000 in
theorem rfits_any {g : Nat} {w : World} {ok : Nat → Prop} {lv : Value} {st : LS} (h : IsL 76 g w ok lv st) (hok : LSok st) (i t : Int) :
    Calls Try.prog 47 #[.pointer (some ⟨g, 0, none⟩), .int .u64 i, .int .u64 t] w fun e w' => e = .returned (.bool (st.fits i t)) ∧ Below w.heap.size w w' := by
  have HT := Lib.hid (rterm_any h hok i)
  clear h hok
  unfold LS.fits
  generalize st.termAt i = p at *
  obtain ⟨a, b⟩ := p
  dsimp only at *
  by_cases hb : b = 0
  · have hb1 : (b == 0) = true := by simpa using hb
    by_cases ha : a = t
    · have ha1 : (a == t) = true := by simpa using ha
      rw [show (decide (b = 0) && decide (a = t)) = true by simp [hb, ha]]
      clear hb ha
      go_enter Try.func47, Try.ntmps47
      go_wp2_with fail
      refine HT.out.mono ?_
      rintro e w1 ⟨rfl, hb⟩
      have HB := Lib.hid hb
      clear hb
      go_wp2
      go_ret
      exact ⟨rfl, HB.out⟩
    · have ha1 : (a == t) = false := by simpa using ha
      rw [show (decide (b = 0) && decide (a = t)) = false by simp [hb, ha]]
      clear hb ha
      go_enter Try.func47, Try.ntmps47
      go_wp2_with fail
      refine HT.out.mono ?_
      rintro e w1 ⟨rfl, hb⟩
      have HB := Lib.hid hb
      clear hb
      go_wp2
      go_ret
      exact ⟨rfl, HB.out⟩
  · have hb1 : (b == 0) = false := by simpa using hb
    rw [show (decide (b = 0) && decide (a = t)) = false by simp [hb]]
    clear hb
    go_enter Try.func47, Try.ntmps47
    go_wp2_with fail
    refine HT.out.mono ?_
    rintro e w1 ⟨rfl, hb⟩
    have HB := Lib.hid hb
    clear hb
    go_wp2
    go_ret
    exact ⟨rfl, HB.out⟩
/-- As G_ent; the conf lies in no block that is the row's own. -/
theorem G_ent2 {w : World} {ok : Nat → Prop} {A : Option Addr} {n c : Nat} {xs : List S31} (h : G k31 31 w ok (.slice A n c) xs) (j : Nat) (hj : j < xs.length) :
    ∃ b off A4 c4, A = some ⟨b, off, none⟩ ∧ w.cell? ⟨b, off + j * 5, none⟩ = some (.int .u64 xs[j].f0) ∧ w.cell? ⟨b, off + j * 5 + 1, none⟩ = some (.int .u64 xs[j].f1) ∧ w.cell? ⟨b, off + j * 5 + 2, none⟩ = some (.int .u8 xs[j].f2) ∧
      w.cell? ⟨b, off + j * 5 + 3, none⟩ = some (.string xs[j].f3) ∧ w.cell? ⟨b, off + j * 5 + 4, none⟩ = some (.slice A4 xs[j].f4.length c4) ∧ xs[j].f4.length ≤ c4 ∧ Kd.F (Kd.int .i64) w (fun k => ok k ∧ some k ≠ (Value.slice A n c).ownBlock) A4 xs[j].f4.length xs[j].f4 := by
  obtain ⟨hn, hc⟩ := G_len h
  subst hn
  obtain ⟨h0, inner, ho, hr⟩ := h
  obtain ⟨b, off, rfl⟩ := ho.addr (by omega)
  have hp := hr.2 j xs[j] (List.getElem?_eq_getElem hj)
  obtain ⟨A4, c4, hcs, l4, g4⟩ := k31_openF hp
  have h5 : k31.sz = 5 := rfl
  have cells : ∀ i u, i < 5 → [Value.int .u64 xs[j].f0, .int .u64 xs[j].f1, .int .u8 xs[j].f2, .string xs[j].f3, .slice A4 xs[j].f4.length c4][i]? = some u → w.cell? ⟨b, off + (j * 5 + i), none⟩ = some u := by
    intro i u hi hu
    rw [← hcs, List.getElem?_take, if_pos (by rw [h5]; exact hi), List.getElem?_drop, h5] at hu
    have := ho.cells rfl _ u hu
    rwa [add_at] at this
  refine ⟨b, off, A4, c4, rfl, ?_, ?_, ?_, ?_, ?_, l4, g4⟩
  · exact cells 0 _ (by decide) rfl
  · exact cells 1 _ (by decide) rfl
  · exact cells 2 _ (by decide) rfl
  · exact cells 3 _ (by decide) rfl
  · exact cells 4 _ (by decide) rfl

/-- The conf at an index, by the first k entries. -/
def LS.rs (st : LS) (x : Int) : Nat → List Int × Int
  | 0 => (st.conf, st.index)
  | k + 1 => if (st.l.getD k z31).f2 = 3 ∧ (st.l.getD k z31).f0 ≤ x then ((st.l.getD k z31).f4, (st.l.getD k z31).f0) else st.rs x k
theorem rs_says (st : LS) (x : Int) : st.rs x st.l.length = st.says x := by
  have key : ∀ k, k ≤ st.l.length → st.rs x k = (match (((st.l.take k).filter (fun e => decide (e.f0 ≤ x))).reverse).find? (fun e => decide (e.f2 = 3)) with
      | some e => (e.f4, e.f0)
      | none => (st.conf, st.index)) := by
    intro k
    induction k with
    | zero => intro _; simp [LS.rs]
    | succ k ih =>
      intro hk
      rw [List.take_succ_eq_append_getElem (by omega), List.filter_append, List.reverse_append, LS.rs, List.getD_eq_getElem?_getD, List.getElem?_eq_getElem (by omega), Option.getD_some, ih (by omega)]
      by_cases h1 : st.l[k].f0 ≤ x
      · by_cases h2 : st.l[k].f2 = 3
        · simp [h1, h2]
        · simp [h1, h2]
      · simp [h1]
  rw [key _ (Nat.le_refl _), List.take_length]
  unfold LS.says
  rw [back_eq]
  rfl

set_option maxHeartbeats 1000000 in
theorem rconf_any {g : Nat} {w : World} {ok : Nat → Prop} {lv : Value} {st : LS} (h : IsL 76 g w ok lv st) (hlen : st.l.length ≤ 4096) (i : Int) :
    Calls Try.prog 44 #[.pointer (some ⟨g, 0, none⟩), .int .u64 i] w fun e w' => ∃ v, e = .returned (.tuple #[v, .int .u64 (st.says i).2]) ∧ RV (Kd.int .i64) w' (fun k => ok k ∧ k ≠ g ∧ some k ≠ lv.ownBlock) v (st.says i).1 ∧ Below w.heap.size w w' := by
  obtain ⟨⟨cv, hb, hc⟩, hl⟩ := h
  obtain ⟨A, c, rfl, hlc⟩ := G_slice hl
  have c0 := blk_cell hb
  have c00 := c0 0
  have c02 := c0 2
  have c03 := c0 3
  simp only [List.getElem?_toArray, List.getElem?_cons_succ, List.getElem?_cons_zero] at c00 c02 c03
  have HC := Lib.hid hc
  have HG := Lib.hid hl
  clear c0 hb hc hl hlc
  rw [← rs_says]
  go_enter Try.func44, Try.ntmps44
  go_wp2_with fail
  go_quiet (fail)
  go_wp2_with fail
  go_loop [6, 7, 8] (fun v a n => ∃ k : Nat, k ≤ st.l.length ∧ n = .int .i64 k ∧ a = .int .u64 (st.rs i k).2 ∧ RV (Kd.int .i64) w (fun k => ok k ∧ k ≠ g ∧ some k ≠ (Value.slice A st.l.length c).ownBlock) v (st.rs i k).1) (fun _ _ n => st.l.length - (intOf n).toNat)
  case atStart => exact ⟨0, Nat.zero_le _, rfl, rfl, HC.out⟩
  case round =>
    obtain ⟨k, hk, rfl, rfl, hv⟩ := hrel
    have HV := Lib.hid hv
    clear hv
    by_cases hlt : k < st.l.length
    · have q1 : IntKind.i64.wrap ((k : Int) + 1) = (k + 1 : Nat) := IntWalk.i64_in _ (by omega)
      have hrs : st.rs i (k + 1) = if st.l[k].f2 = 3 ∧ st.l[k].f0 ≤ i then (st.l[k].f4, st.l[k].f0) else st.rs i k := by
        rw [LS.rs, List.getD_eq_getElem?_getD, List.getElem?_eq_getElem hlt, Option.getD_some]
      obtain ⟨b, off, A4, c4, rfl, e0, e1, e2, e3, e4, hl4, hF4⟩ := G_ent2 HG.out k hlt
      have HF4 := Lib.hid hF4
      clear hF4 e1 e3
      generalize st.l[k] = x at *
      by_cases h2 : x.f2 = 3
      · have h2' : (x.f2 == 3) = true := by simpa using h2
        by_cases h0 : x.f0 ≤ i
        · have HR := Lib.hid (show st.rs i (k + 1) = (x.f4, x.f0) by rw [hrs, if_pos ⟨h2, h0⟩])
          clear hrs h2
          go_wp2_with fail
          exact ⟨⟨k + 1, by omega, by simp, by rw [HR.out], by rw [HR.out]; exact ⟨A4, c4, rfl, hl4, Kd.F_mono HF4.out (fun k hk => ⟨hk.1.1, hk.1.2, hk.2⟩)⟩⟩, by simp [intOf]; omega⟩
        · have HR := Lib.hid (show st.rs i (k + 1) = st.rs i k by rw [hrs, if_neg (fun h => h0 h.2)])
          clear hrs h2
          go_wp2_with fail
          exact ⟨⟨k + 1, by omega, by simp, by rw [HR.out], by rw [HR.out]; exact HV.out⟩, by simp [intOf]; omega⟩
      · have h2' : (x.f2 == 3) = false := by simpa using h2
        have HR := Lib.hid (show st.rs i (k + 1) = st.rs i k by rw [hrs, if_neg (fun h => h2 h.1)])
        clear hrs h2
        go_wp2_with fail
        exact ⟨⟨k + 1, by omega, by simp, by rw [HR.out], by rw [HR.out]; exact HV.out⟩, by simp [intOf]; omega⟩
    · obtain rfl : k = st.l.length := by omega
      go_wp2_with fail
      go_ret2
      refine ⟨_, rfl, ?_, pw_below_drewN (Below.refl _ _) _⟩
      exact RV_below HV.out (pw_below_drewN (Below.refl _ _) _)
theorem rdropAll {α : Type} {p : α → Bool} : ∀ {l : List α}, (∀ x, x ∈ l → p x = true) → l.dropWhile p = []
  | [], _ => rfl
  | x :: l, h => by rw [List.dropWhile_cons_of_pos (h x (by simp))]; exact rdropAll (fun y hy => h y (by simp [hy]))
theorem rslice_all {st : LS} (h : LSok st) : st.slice (st.index + 1) 4096 = (st.l, 0) := by
  unfold LS.slice
  have := h.len
  rw [if_neg (by omega), if_neg (by omega), show (st.index + 1 - st.index - 1).toNat = 0 by omega, List.drop_zero, List.take_of_length_le (by simpa using this)]
end Go.Proofs.Ytpnmodkddiljeaa

namespace Go.Proofs.Ytpnmodkddiljeaa
open Go.RowKit Go.Proofs.YtpnmodkddiljeaaW.PrintWords PEntryPlays

theorem back_take {st : LS} (hok : LSok st) {i : Int} (h1 : st.index ≤ i) (h2 : i ≤ st.index + st.l.length) : st.back i = (st.l.take (i - st.index).toNat).reverse := by
  rw [back_eq, filter_low hok h2 (Int.le_refl i), filter_none hok h1 h2, List.append_nil]

theorem hint_at {st : LS} (hok : LSok st) (n p : Nat) (hn : n < st.l.length) (hp : p ≤ n) (h : ∀ j (hj : j < st.l.length), p ≤ j → j ≤ n → st.l[j].f1 = st.l[n].f1)
    (hx : p = 0 ∨ ∃ hq : p - 1 < st.l.length, st.l[p - 1].f1 ≠ st.l[n].f1) : st.hint (st.index + n + 1) = st.index + p + 1 := by
  unfold LS.hint
  rw [hok.last1, if_neg (by omega), if_neg (by omega), back_take hok (by omega) (by omega), show (st.index + (n : Int) + 1 - st.index).toNat = n + 1 by omega, show (st.index + (n : Int) + 1 - st.index - 1).toNat = n by omega,
    List.getD_eq_getElem?_getD, List.getElem?_eq_getElem hn, Option.getD_some]
  have hsplit : st.l.take (n + 1) = st.l.take p ++ (st.l.take (n + 1)).drop p := by
    conv => lhs; rw [← List.take_append_drop p (st.l.take (n + 1)), List.take_take, Nat.min_eq_left (by omega)]
  rw [hsplit, List.reverse_append, List.takeWhile_append_of_pos]
  · have hnil : (st.l.take p).reverse.takeWhile (fun e => decide (e.f1 = st.l[n].f1)) = [] := by
      rcases hx with rfl | ⟨hq, hne⟩
      · simp
      · by_cases h0 : p = 0
        · subst h0; simp
        · obtain ⟨q, rfl⟩ : ∃ q, p = q + 1 := ⟨p - 1, by omega⟩
          rw [List.take_succ_eq_append_getElem (by omega), List.reverse_append]
          simp only [Nat.add_sub_cancel] at hne
          simp [hne]
    rw [hnil, List.append_nil, List.getLast?_reverse, List.head?_eq_getElem?, List.getElem?_drop, List.getElem?_take, if_pos (by omega), Nat.add_zero, List.getElem?_eq_getElem (by omega)]
    exact hok.seq p (by omega)
  · intro e he
    obtain ⟨j, hj, rfl⟩ := List.getElem_of_mem (List.mem_reverse.1 he)
    rw [List.length_drop, List.length_take] at hj
    rw [List.getElem_drop, List.getElem_take]
    simp only [decide_eq_true_eq]
    exact h _ (by omega) (by omega) (by omega)

set_option maxHeartbeats 1000000 in
set_option maxRecDepth 100000 in
theorem rhint_any {g : Nat} {w : World} {ok : Nat → Prop} {lv : Value} {st : LS} (h : IsL 76 g w ok lv st) (hok : LSok st) (i : Int) :
    Calls Try.prog 46 #[.pointer (some ⟨g, 0, none⟩), .int .u64 i] w fun e w' => e = .returned (.int .u64 (st.hint i)) ∧ Below w.heap.size w w' := by
  have HL := Lib.hid (rlast_any h hok.len)
  have H := Lib.hid h
  have hla := hok.last1
  have hi0 := hok.i0
  have hi1 := hok.i1
  have hlen := hok.len
  by_cases h1 : st.last.1 < i
  · have ht : st.hint i = st.last.1 + 1 := by unfold LS.hint; rw [if_pos h1]
    rw [ht]
    have q0 : IntKind.u64.wrap (st.last.1 + 1) = st.last.1 + 1 := IntWalk.u64_in _ (by omega)
    clear hla hok hlen ht
    generalize st.last.1 = la at *
    go_enter Try.func46, Try.ntmps46
    go_wp2_with fail
    refine HL.out.mono ?_
    rintro e w1 ⟨rfl, hb⟩
    have HB := Lib.hid hb
    clear hb
    go_wp2
    go_ret
    exact ⟨rfl, HB.out⟩
  by_cases h2 : i ≤ st.index
  · have ht : st.hint i = st.index + 1 := by unfold LS.hint; rw [if_neg h1, if_pos h2]
    rw [ht]
    have q0 : IntKind.u64.wrap (st.index + 1) = st.index + 1 := IntWalk.u64_in _ (by omega)
    clear hla hok hlen ht
    generalize st.last.1 = la at *
    go_enter Try.func46, Try.ntmps46
    go_wp2_with fail
    refine HL.out.mono ?_
    rintro e w1 ⟨rfl, hb⟩
    have HB := Lib.hid hb
    obtain ⟨⟨cv, hb1, _⟩, _⟩ := H.out.below hb
    have c0 := blk_cell hb1
    clear hb hb1
    go_wp2
    go_ret
    exact ⟨rfl, HB.out⟩
  obtain ⟨n, hn⟩ : ∃ n : Nat, i = st.index + n + 1 := ⟨(i - st.index - 1).toNat, by omega⟩
  have hnl : n < st.l.length := by omega
  have HOk := Lib.hid hok
  have HN := Lib.hid hn
  have n1 : IntKind.u64.wrap (i - st.index) = i - st.index := IntWalk.u64_in _ (by omega)
  have n2 : IntKind.u64.wrap (i - st.index - 1) = n := (IntWalk.u64_in _ (by omega)).trans (by omega)
  have n3 : (n : Int) < (st.l.length : Int) := by omega
  have n4 : (0 : Int) ≤ (n : Int) := by omega
  clear hla hok hn
  generalize st.last.1 = la at *
  go_enter Try.func46, Try.ntmps46
  go_wp2_with fail
  refine HL.out.mono ?_
  rintro e w1 ⟨rfl, hb⟩
  have HB := Lib.hid hb
  obtain ⟨⟨cv, hb1, _⟩, _⟩ := H.out.below hb
  have c0 := blk_cell hb1
  clear hb hb1
  go_wp2_with fail
  clear c0
  go_loopw [7] (fun v wr => ∃ p : Nat, p ≤ n ∧ v = .int .u64 (st.index + p + 1) ∧ (∀ j (hj : j < st.l.length), p ≤ j → j ≤ n → st.l[j].f1 = st.l[n].f1) ∧ Below w.heap.size w wr) (fun v _ => (intOf v - st.index).toNat)
  case atStart => exact ⟨n, Nat.le_refl _, by rw [HN.out], (fun j hj h1 h2 => by have e : j = n := (by omega); subst e; rfl), HB.out⟩
  case round =>
    obtain ⟨p, hp, rfl, hsame, hB⟩ := hrel
    have HSm := Lib.hid hsame
    have HBr := Lib.hid hB
    obtain ⟨⟨cv2, hb2, _⟩, hl2⟩ := H.out.below hB
    have c0 := blk_cell hb2
    have c00 := c0 0
    have c03 := c0 3
    simp only [List.getElem?_toArray, List.getElem?_cons_succ, List.getElem?_cons_zero] at c00 c03
    obtain ⟨A, c, rfl, _⟩ := G_slice hl2
    have HG := Lib.hid hl2
    obtain ⟨a, ha⟩ : ∃ a, st.index + (p : Int) + 1 = a := ⟨_, rfl⟩
    rw [ha]
    have HA := Lib.hid ha
    have m1 : IntKind.u64.wrap (a - 1) = a - 1 := IntWalk.u64_in _ (by omega)
    have m2 : IntKind.u64.wrap (a - st.index) = a - st.index := IntWalk.u64_in _ (by omega)
    clear hsame hB hb2 hl2 c0
    by_cases hp0 : p = 0
    · have m3 : ¬ a - 1 > st.index := by omega
      have m4 : decide (a - 1 > st.index) = false := by simpa using m3
      have HE2 := Lib.hid (show st.hint i = a by rw [HN.out, hint_at HOk.out n p hnl hp HSm.out (.inl hp0), HA.out])
      clear ha
      go_wp2_with fail
      go_quiet (fail)
      go_wp2
      go_ret
      exact ⟨by rw [HE2.out]; rfl, pw_below_drewN HBr.out _⟩
    · obtain ⟨P, rfl⟩ : ∃ P, p = P + 1 := ⟨p - 1, by omega⟩
      have m3 : a - 1 > st.index := by omega
      have m4 : decide (a - 1 > st.index) = true := by simpa using m3
      have m5 : IntKind.u64.wrap (a - st.index - 2) = P := (IntWalk.u64_in _ (by omega)).trans (by omega)
      have m6 : (P : Int) < (st.l.length : Int) := by omega
      have m7 : (0 : Int) ≤ (P : Int) := by omega
      obtain ⟨b, off, _, _, rfl, _, e1, _, _, _, _, _⟩ := G_ent2 HG.out P (by omega)
      obtain ⟨b', off', _, _, hA, _, k1, _, _, _, _, _⟩ := G_ent2 HG.out n hnl
      injection hA with hA
      injection hA with hb' ho' _
      subst hb' ho'
      clear ha
      by_cases heq : st.l[P].f1 = st.l[n].f1
      · have HEq := Lib.hid heq
        have heq' : (st.l[P].f1 == st.l[n].f1) = true := by simpa using heq
        clear heq
        generalize hx1 : st.l[P].f1 = t1 at *
        generalize hx2 : st.l[n].f1 = t2 at *
        have HX1 := Lib.hid hx1
        have HX2 := Lib.hid hx2
        clear hx1 hx2
        go_wp2_with fail
        go_quiet (fail)
        go_wp2_with fail
        refine ⟨⟨P, by omega, ?_, ?_, pw_below_drewN HBr.out _⟩, ?_⟩
        · have := HA.out
          rw [show a - 1 = st.index + (P : Int) + 1 by omega]
        · intro j hj h1 h2
          by_cases hjp : j = P
          · subst hjp; rw [HX1.out, HEq.out]
          · exact HSm.out j hj (by omega) h2
        · have := HA.out
          simp only [intOf]
          omega
      · have HEq := Lib.hid heq
        have heq' : (st.l[P].f1 == st.l[n].f1) = false := by simpa using heq
        clear heq
        have HE2 := Lib.hid (show st.hint i = a by rw [HN.out, hint_at HOk.out n (P + 1) hnl hp HSm.out (.inr ⟨by omega, HEq.out⟩), HA.out])
        clear HEq HSm
        generalize st.l[P].f1 = t1 at *
        generalize st.l[n].f1 = t2 at *
        go_wp2_with fail
        go_quiet (fail)
        go_wp2
        go_ret
        exact ⟨by rw [HE2.out]; rfl, pw_below_drewN HBr.out _⟩
end Go.Proofs.Ytpnmodkddiljeaa

namespace Go.Proofs.Ytpnmodkddiljeaa
open Go.RowKit Go.Proofs.YtpnmodkddiljeaaW.PrintWords Go.Proofs.YtpnmodkddiljeaaW.PrintLast PEntryPlays

theorem rmayEntry_calls {w : World} {ok : Nat → Prop} {cv : Value} (x : S31) (hr : RV (Kd.int .i64) w ok cv x.f4) :
    Calls Try.prog 48 #[entV x cv] w fun e w' => e = .returned (.bool (mayE x)) ∧ Below w.heap.size w w' := by
  have hm := RV_max hr
  obtain ⟨A, c, rfl, hl, hf⟩ := hr
  exact codicilref23_MayEntry.calls _ _ _ _ _ _ _ _ _ _ (Kd.F_now hf) hl (mayE_ref x hm _ (Nat.lt_succ_self _))

set_option maxHeartbeats 1000000 in
theorem rappend_may {g : Nat} {w : World} {ok : Nat → Prop} {lv : Value} {st : LS} (h : IsL 76 g w ok lv st) (hok : LSok st) (x : S31) (cv : Value) {okx : Nat → Prop} (hr : RV (Kd.int .i64) w okx cv x.f4)
    (h1 : mayE x = false) :
    Calls Try.prog 24 #[.pointer (some ⟨g, 0, none⟩), entV x cv] w fun e w' => e = .returned (.int .i64 2) ∧ Below w.heap.size w w' := by
  have H := Lib.hid h
  have HR := Lib.hid hr
  have hlen := hok.len
  obtain ⟨Ac, cc, rfl, hcl2, _⟩ := hr
  clear h
  generalize hlast : st.last = la at *
  obtain ⟨la, lt⟩ := la
  try dsimp only at h2
  try dsimp only at h3
  have HLa := Lib.hid hlast
  have HLok := Lib.hid hok
  clear hlast hok
  obtain ⟨x0, x1, x2, x3, x4⟩ := x
  dsimp only [entV] at *
  go_enter Try.func24, Try.ntmps24
  go_wp2_with fail
  have hk1 : (w.alloc (.cells #[.int .u64 x0, .int .u64 x1, .int .u8 x2, .string x3, .slice Ac x4.length cc] 31)).heap[w.heap.size]? = some (.cells #[.int .u64 x0, .int .u64 x1, .int .u8 x2, .string x3, .slice Ac x4.length cc] 31 (0, 0)) := blk_new w _
  have Hb0 := below_alloc (Below.refl _ w) (.cells #[.int .u64 x0, .int .u64 x1, .int .u8 x2, .string x3, .slice Ac x4.length cc] 31)
  refine (rmayEntry_calls ⟨x0, x1, x2, x3, x4⟩ (RV_below HR.out Hb0)).mono ?_
  rintro e w1 ⟨rfl, hb⟩
  have HK1 := Lib.hid (blk_below hk1 hb)
  have HB1 := Lib.hid (below_then Hb0 Hb0.size hb)
  rw [h1]
  clear hk1 Hb0 hb
  go_wp2
  go_ret
  exact ⟨rfl, HB1.out⟩
set_option maxHeartbeats 1000000 in
theorem rappend_idx {g : Nat} {w : World} {ok : Nat → Prop} {lv : Value} {st : LS} (h : IsL 76 g w ok lv st) (hok : LSok st) (x : S31) (cv : Value) {okx : Nat → Prop} (hr : RV (Kd.int .i64) w okx cv x.f4)
    (h1 : mayE x = true) (h2 : (x.f0 != IntKind.u64.wrap (st.last.1 + 1)) = true) :
    Calls Try.prog 24 #[.pointer (some ⟨g, 0, none⟩), entV x cv] w fun e w' => e = .returned (.int .i64 261) ∧ Below w.heap.size w w' := by
  have H := Lib.hid h
  have HR := Lib.hid hr
  have hlen := hok.len
  obtain ⟨Ac, cc, rfl, hcl2, _⟩ := hr
  clear h
  generalize hlast : st.last = la at *
  obtain ⟨la, lt⟩ := la
  try dsimp only at h2
  try dsimp only at h3
  have HLa := Lib.hid hlast
  have HLok := Lib.hid hok
  clear hlast hok
  obtain ⟨x0, x1, x2, x3, x4⟩ := x
  dsimp only [entV] at *
  go_enter Try.func24, Try.ntmps24
  go_wp2_with fail
  have hk1 : (w.alloc (.cells #[.int .u64 x0, .int .u64 x1, .int .u8 x2, .string x3, .slice Ac x4.length cc] 31)).heap[w.heap.size]? = some (.cells #[.int .u64 x0, .int .u64 x1, .int .u8 x2, .string x3, .slice Ac x4.length cc] 31 (0, 0)) := blk_new w _
  have Hb0 := below_alloc (Below.refl _ w) (.cells #[.int .u64 x0, .int .u64 x1, .int .u8 x2, .string x3, .slice Ac x4.length cc] 31)
  refine (rmayEntry_calls ⟨x0, x1, x2, x3, x4⟩ (RV_below HR.out Hb0)).mono ?_
  rintro e w1 ⟨rfl, hb⟩
  have HK1 := Lib.hid (blk_below hk1 hb)
  have HB1 := Lib.hid (below_then Hb0 Hb0.size hb)
  rw [h1]
  clear hk1 Hb0 hb
  go_wp2_with fail
  refine (rlast_any (H.out.below HB1.out) HLok.out.len).mono ?_
  rintro e w2 ⟨rfl, hb⟩
  rw [HLa.out]
  have HK2 := Lib.hid (blk_below HK1.out hb)
  have HB2 := Lib.hid (below_then HB1.out HB1.out.size hb)
  clear hb HK1
  have c1 := blk_cell HK2.out
  obtain ⟨⟨cv, hbl, hcv⟩, hll⟩ := H.out.below HB2.out
  obtain ⟨A, c, rfl, hlc⟩ := G_slice hll
  have c0 := blk_cell hbl
  clear hbl hcv hll
  go_wp2
  go_ret
  exact ⟨rfl, HB2.out⟩
set_option maxHeartbeats 1000000 in
theorem rappend_term {g : Nat} {w : World} {ok : Nat → Prop} {lv : Value} {st : LS} (h : IsL 76 g w ok lv st) (hok : LSok st) (x : S31) (cv : Value) {okx : Nat → Prop} (hr : RV (Kd.int .i64) w okx cv x.f4)
    (h1 : mayE x = true) (h2 : (x.f0 != IntKind.u64.wrap (st.last.1 + 1)) = false) (h3 : x.f1 < st.last.2) :
    Calls Try.prog 24 #[.pointer (some ⟨g, 0, none⟩), entV x cv] w fun e w' => e = .returned (.int .i64 261) ∧ Below w.heap.size w w' := by
  have H := Lib.hid h
  have HR := Lib.hid hr
  have hlen := hok.len
  obtain ⟨Ac, cc, rfl, hcl2, _⟩ := hr
  clear h
  generalize hlast : st.last = la at *
  obtain ⟨la, lt⟩ := la
  try dsimp only at h2
  try dsimp only at h3
  have HLa := Lib.hid hlast
  have HLok := Lib.hid hok
  clear hlast hok
  obtain ⟨x0, x1, x2, x3, x4⟩ := x
  dsimp only [entV] at *
  go_enter Try.func24, Try.ntmps24
  go_wp2_with fail
  have hk1 : (w.alloc (.cells #[.int .u64 x0, .int .u64 x1, .int .u8 x2, .string x3, .slice Ac x4.length cc] 31)).heap[w.heap.size]? = some (.cells #[.int .u64 x0, .int .u64 x1, .int .u8 x2, .string x3, .slice Ac x4.length cc] 31 (0, 0)) := blk_new w _
  have Hb0 := below_alloc (Below.refl _ w) (.cells #[.int .u64 x0, .int .u64 x1, .int .u8 x2, .string x3, .slice Ac x4.length cc] 31)
  refine (rmayEntry_calls ⟨x0, x1, x2, x3, x4⟩ (RV_below HR.out Hb0)).mono ?_
  rintro e w1 ⟨rfl, hb⟩
  have HK1 := Lib.hid (blk_below hk1 hb)
  have HB1 := Lib.hid (below_then Hb0 Hb0.size hb)
  rw [h1]
  clear hk1 Hb0 hb
  go_wp2_with fail
  refine (rlast_any (H.out.below HB1.out) HLok.out.len).mono ?_
  rintro e w2 ⟨rfl, hb⟩
  rw [HLa.out]
  have HK2 := Lib.hid (blk_below HK1.out hb)
  have HB2 := Lib.hid (below_then HB1.out HB1.out.size hb)
  clear hb HK1
  have c1 := blk_cell HK2.out
  obtain ⟨⟨cv, hbl, hcv⟩, hll⟩ := H.out.below HB2.out
  obtain ⟨A, c, rfl, hlc⟩ := G_slice hll
  have c0 := blk_cell hbl
  clear hbl hcv hll
  go_wp2
  go_ret
  exact ⟨rfl, HB2.out⟩
set_option maxHeartbeats 1000000 in
theorem rappend_full {g : Nat} {w : World} {ok : Nat → Prop} {lv : Value} {st : LS} (h : IsL 76 g w ok lv st) (hok : LSok st) (x : S31) (cv : Value) {okx : Nat → Prop} (hr : RV (Kd.int .i64) w okx cv x.f4)
    (h1 : mayE x = true) (h2 : (x.f0 != IntKind.u64.wrap (st.last.1 + 1)) = false) (h3 : ¬ x.f1 < st.last.2) (h4 : 4096 ≤ st.l.length) :
    Calls Try.prog 24 #[.pointer (some ⟨g, 0, none⟩), entV x cv] w fun e w' => e = .returned (.int .i64 6) ∧ Below w.heap.size w w' := by
  have H := Lib.hid h
  have HR := Lib.hid hr
  have hlen := hok.len
  obtain ⟨Ac, cc, rfl, hcl2, _⟩ := hr
  clear h
  generalize hlast : st.last = la at *
  obtain ⟨la, lt⟩ := la
  try dsimp only at h2
  try dsimp only at h3
  have HLa := Lib.hid hlast
  have HLok := Lib.hid hok
  clear hlast hok
  obtain ⟨x0, x1, x2, x3, x4⟩ := x
  dsimp only [entV] at *
  go_enter Try.func24, Try.ntmps24
  go_wp2_with fail
  have hk1 : (w.alloc (.cells #[.int .u64 x0, .int .u64 x1, .int .u8 x2, .string x3, .slice Ac x4.length cc] 31)).heap[w.heap.size]? = some (.cells #[.int .u64 x0, .int .u64 x1, .int .u8 x2, .string x3, .slice Ac x4.length cc] 31 (0, 0)) := blk_new w _
  have Hb0 := below_alloc (Below.refl _ w) (.cells #[.int .u64 x0, .int .u64 x1, .int .u8 x2, .string x3, .slice Ac x4.length cc] 31)
  refine (rmayEntry_calls ⟨x0, x1, x2, x3, x4⟩ (RV_below HR.out Hb0)).mono ?_
  rintro e w1 ⟨rfl, hb⟩
  have HK1 := Lib.hid (blk_below hk1 hb)
  have HB1 := Lib.hid (below_then Hb0 Hb0.size hb)
  rw [h1]
  clear hk1 Hb0 hb
  go_wp2_with fail
  refine (rlast_any (H.out.below HB1.out) HLok.out.len).mono ?_
  rintro e w2 ⟨rfl, hb⟩
  rw [HLa.out]
  have HK2 := Lib.hid (blk_below HK1.out hb)
  have HB2 := Lib.hid (below_then HB1.out HB1.out.size hb)
  clear hb HK1
  have c1 := blk_cell HK2.out
  obtain ⟨⟨cv, hbl, hcv⟩, hll⟩ := H.out.below HB2.out
  obtain ⟨A, c, rfl, hlc⟩ := G_slice hll
  have c0 := blk_cell hbl
  clear hbl hcv hll
  have h4' : 4096 ≤ (st.l.length : Int) := by omega
  go_wp2
  go_ret
  exact ⟨rfl, HB2.out⟩

set_option maxHeartbeats 1000000 in
set_option maxRecDepth 100000 in
theorem rappend_ok {g : Nat} {w : World} {ok : Nat → Prop} {lv : Value} {st : LS} (h : IsL 76 g w ok lv st) (hok : LSok st) (x : S31) (cv : Value) {okx : Nat → Prop} (hr : RV (Kd.int .i64) w okx cv x.f4) (hx : ∀ k, okx k → k ≠ g ∧ some k ≠ lv.ownBlock)
    (h1 : mayE x = true) (h2 : (x.f0 != IntKind.u64.wrap (st.last.1 + 1)) = false) (h3 : ¬ x.f1 < st.last.2) (h4 : st.l.length < 4096) :
    Calls Try.prog 24 #[.pointer (some ⟨g, 0, none⟩), entV x cv] w fun e w' => e = .returned (.int .i64 0) ∧ Left 76 g w (fun k => ok k ∨ okx k) lv { st with l := st.l ++ [x] } w' := by
  have HXo := Lib.hid hx
  clear hx
  have H := Lib.hid h
  have HR := Lib.hid hr
  have hlen := hok.len
  obtain ⟨Ac, cc, rfl, hcl2, _⟩ := hr
  clear h
  generalize hlast : st.last = la at *
  obtain ⟨la, lt⟩ := la
  try dsimp only at h2
  try dsimp only at h3
  have HLa := Lib.hid hlast
  have HLok := Lib.hid hok
  clear hlast hok
  obtain ⟨x0, x1, x2, x3, x4⟩ := x
  dsimp only [entV] at *
  go_enter Try.func24, Try.ntmps24
  go_wp2_with fail
  have hk1 : (w.alloc (.cells #[.int .u64 x0, .int .u64 x1, .int .u8 x2, .string x3, .slice Ac x4.length cc] 31)).heap[w.heap.size]? = some (.cells #[.int .u64 x0, .int .u64 x1, .int .u8 x2, .string x3, .slice Ac x4.length cc] 31 (0, 0)) := blk_new w _
  have Hb0 := below_alloc (Below.refl _ w) (.cells #[.int .u64 x0, .int .u64 x1, .int .u8 x2, .string x3, .slice Ac x4.length cc] 31)
  refine (rmayEntry_calls ⟨x0, x1, x2, x3, x4⟩ (RV_below HR.out Hb0)).mono ?_
  rintro e w1 ⟨rfl, hb⟩
  have HK1 := Lib.hid (blk_below hk1 hb)
  have HB1 := Lib.hid (below_then Hb0 Hb0.size hb)
  rw [h1]
  clear hk1 Hb0 hb
  go_wp2_with fail
  refine (rlast_any (H.out.below HB1.out) HLok.out.len).mono ?_
  rintro e w2 ⟨rfl, hb⟩
  rw [HLa.out]
  have HK2 := Lib.hid (blk_below HK1.out hb)
  have HB2 := Lib.hid (below_then HB1.out HB1.out.size hb)
  clear hb HK1
  have c1 := blk_cell HK2.out
  obtain ⟨⟨cv, hbl, hcv⟩, hll⟩ := H.out.below HB2.out
  obtain ⟨A, c, rfl, hlc⟩ := G_slice hll
  have c0 := blk_cell hbl
  have HL := Lib.hid hll
  have HC := Lib.hid hcv
  have HBl := Lib.hid hbl
  clear hbl hcv hll
  have h4' : ¬ 4096 ≤ (st.l.length : Int) := by omega
  go_wp2_with fail
  have hgl : ¬ some g = (Value.slice A st.l.length c).ownBlock := G_ne HL.out HBl.out (by decide)
  have hbl : ¬ some w.heap.size = (Value.slice A st.l.length c).ownBlock := by
    intro he
    have := (G_lt H.out.l) _ he.symm
    omega
  have HS : ∀ w', Fr w2 w' (fun k => some k = (Value.slice A st.l.length c).ownBlock) → (fun w' => w'.cell? ⟨g, 3, none⟩ = some (.slice A st.l.length c) ∧ w'.cell? ⟨w.heap.size, 0, none⟩ = some (.int .u64 x0) ∧ w'.cell? ⟨w.heap.size, 1, none⟩ = some (.int .u64 x1) ∧ w'.cell? ⟨w.heap.size, 2, none⟩ = some (.int .u8 x2) ∧ w'.cell? ⟨w.heap.size, 3, none⟩ = some (.string x3) ∧ w'.cell? ⟨w.heap.size, 4, none⟩ = some (.slice Ac x4.length cc)) w' := fun w' hf =>
    ⟨hf.cell hgl (c0 3), hf.cell hbl (c1 0), hf.cell hbl (c1 1), hf.cell hbl (c1 2), hf.cell hbl (c1 3), hf.cell hbl (c1 4)⟩
  have HF0 : Fr w2 w2.drew (fun k => some k = (Value.slice A st.l.length c).ownBlock) := (Fr.refl _ _).drew
  clear c0 c1
  have HCx := Lib.hid (RV_bound (RV_below HR.out HB2.out))
  have HCx0 := Lib.hid (RV_bound HR.out)
  refine start_ (n := 11) (S := (fun w' => w'.cell? ⟨g, 3, none⟩ = some (.slice A st.l.length c) ∧ w'.cell? ⟨w.heap.size, 0, none⟩ = some (.int .u64 x0) ∧ w'.cell? ⟨w.heap.size, 1, none⟩ = some (.int .u64 x1) ∧ w'.cell? ⟨w.heap.size, 2, none⟩ = some (.int .u8 x2) ∧ w'.cell? ⟨w.heap.size, 3, none⟩ = some (.string x3) ∧ w'.cell? ⟨w.heap.size, 4, none⟩ = some (.slice Ac x4.length cc))) (ds := [10]) #[false, false, false, false, false, false, false, false, false, false, false] (by kernel_rfl) rfl rfl (by exact HS _ HF0) (fun hHeld => ?_)
  refine pure_ (i := 0) (N := some 32) (v := ?_) (a' := ?_) #[true, false, false, false, false, false, false, false, false, false, false] rfl rfl (by kernel_rfl) (fun _ _ _ h => h) (Or.inl ⟨by rfl, ?_⟩) ?_ ?_   -- move
  rotate_left
  · intro w'
    go_simp
    with_reducible rfl
  rotate_left
  · simp only [Act.put, List.setIfInBounds_toArray, List.set_cons_zero, List.set_cons_succ]
    rfl
  refine pure_ (i := 1) (N := some 33) (v := ?_) (a' := ?_) #[true, true, false, false, false, false, false, false, false, false, false] rfl rfl (by kernel_rfl) (fun _ _ _ h => h) (Or.inl ⟨by rfl, ?_⟩) ?_ ?_   -- move
  rotate_left
  · intro w'
    go_simp
    with_reducible rfl
  rotate_left
  · simp only [Act.put, List.setIfInBounds_toArray, List.set_cons_zero, List.set_cons_succ]
    rfl
  refine pure_ (i := 2) (N := some 34) (v := ?_) (a' := ?_) #[true, true, true, false, false, false, false, false, false, false, false] rfl rfl (by kernel_rfl) (fun _ _ _ h => h) (Or.inl ⟨by rfl, ?_⟩) ?_ ?_   -- nilCheck
  rotate_left
  · intro w'
    go_simp
    with_reducible rfl
  rotate_left
  · simp only [Act.put, List.setIfInBounds_toArray, List.set_cons_zero, List.set_cons_succ]
    rfl
  refine pure_ (i := 3) (N := some 35) (v := ?_) (a' := ?_) #[true, true, true, true, false, false, false, false, false, false, false] rfl rfl (by kernel_rfl) (fun _ _ _ h => h) (Or.inl ⟨by rfl, ?_⟩) ?_ ?_   -- fieldAddr
  rotate_left
  · intro w'
    go_simp
    with_reducible rfl
  rotate_left
  · simp only [Act.put, List.setIfInBounds_toArray, List.set_cons_zero, List.set_cons_succ]
    rfl
  refine take_ (i := 4) (N := some 36) (v := ?_) (a' := ?_) #[true, true, true, true, true, false, false, false, false, false, false] rfl rfl (by kernel_rfl) (fun _ _ _ h => h) (Or.inl ⟨by rfl, ?_⟩) hHeld ?_ ?_   -- Go.Op.load 33 (Go.Operand.tmp 35)
  rotate_left
  · rintro w' ⟨s0, s1, s2, s3, s4, s5⟩
    go_simp
    with_reducible rfl
  rotate_left
  · simp only [Act.put, List.setIfInBounds_toArray, List.set_cons_zero, List.set_cons_succ]
    rfl
  refine take_ (i := 5) (N := some 37) (v := ?_) (a' := ?_) #[true, true, true, true, true, true, false, false, false, false, false] rfl rfl (by kernel_rfl) (fun _ _ _ h => h) (Or.inl ⟨by rfl, ?_⟩) hHeld ?_ ?_   -- Go.Op.load 31 (Go.Operand.tmp 3)
  rotate_left
  · rintro w' ⟨s0, s1, s2, s3, s4, s5⟩
    go_simp
    with_reducible rfl
  rotate_left
  · simp only [Act.put, List.setIfInBounds_toArray, List.set_cons_zero, List.set_cons_succ]
    rfl
  refine one_ (i := 6) (N := some 38) #[true, true, true, true, true, true, true, false, false, false, false] rfl rfl (by kernel_rfl) (by decide) (fun K hK => ?_)   -- Go.Op.buildSlice 33 1 #[(0, Go.Operand.tmp 37)]
  refine value_ (by rfl) rfl (by go_simp; exact ⟨rfl, rfl⟩) ?_
  refine hK.out _ _ (HS _ (HF0.alloc _)) (fun hHeld => ?_)
  clear hK K
  refine norm_ (a' := ?_) ?_ ?_
  rotate_left
  · show Act.put _ (some 38) _ = _
    simp only [Act.put, List.setIfInBounds_toArray, List.set_cons_zero, List.set_cons_succ]
    rfl
  refine one_ (i := 7) (N := some 39) #[true, true, true, true, true, true, true, true, false, false, false] rfl rfl (by kernel_rfl) (by decide) (fun K hK => ?_)   -- Go.Op.call { callee := Go.Callee.builtin Go.Builtin.append, args := #[Go.Operand.tmp 36, Go.Operand.tmp 38], a
  have HG3 := Lib.hid (G_mono (G_drew HL.out) (fun k hk => (⟨.inl (.inl hk.1), hk.2⟩ : ((ok k ∨ okx k) ∨ w.heap.size ≤ k) ∧ k ≠ g)))
  have hsz : w.heap.size ≤ w2.heap.size := HB2.out.size
  have hgs : g < w.heap.size := H.out.lt
  have hown : ∀ k, some k = (Value.slice A st.l.length c).ownBlock → k < w.heap.size := fun k hk => G_lt H.out.l k hk.symm
  refine G_append_step k31 (by rfl) (.tmp 36) (.tmp 38) 33 31 _ 64 rfl Try.underlying33 ent_info rfl (by decide) (.slice A st.l.length c) st.l ⟨x0, x1, x2, x3, x4⟩ _ (fun k => ((ok k ∨ okx k) ∨ w.heap.size ≤ k) ∧ k ≠ g) (fun k => okx k) rfl rfl (k31_mkF w2.drew _ ⟨x0, x1, x2, x3, x4⟩ hcl2 (Kd.F_mono (ok := fun k => okx k ∧ k < w2.heap.size) (by obtain ⟨A', c', e', _, f'⟩ := RV_below HCx.out (below_drew (Below.refl w2.heap.size w2)); injection e' with e1 e2 e3; rw [e1]; exact f') (fun k hk => hk.1))) (fun k hk => ⟨⟨.inl (.inr hk), (HXo.out k hk).1⟩, (HXo.out k hk).2⟩) (fun k hk => ⟨.inr (by have : w2.heap.size ≤ k := hk; omega), by have : w2.heap.size ≤ k := hk; omega⟩) HG3.out (by omega) ?_
  intro v1 w4 hG4 hg4 hat4 _
  have HF4 : Fr w2 w4 (fun k => some k = (Value.slice A st.l.length c).ownBlock) := HF0.then_grown hg4 (fun i hi => .inl hi.symm)
  have HG4 := Lib.hid hG4
  have HAt := Lib.hid hat4
  have HBl4 := Lib.hid (HF4.blk hgl HBl.out)
  obtain ⟨A1, cap1, rfl, _⟩ := G_slice hG4
  clear hat4 hg4
  refine hK.out _ _ (HS _ HF4) (fun hHeld => ?_)
  clear hK K
  refine norm_ (a' := ?_) ?_ ?_
  rotate_left
  · show Act.put _ (some 39) _ = _
    simp only [Act.put, List.setIfInBounds_toArray, List.set_cons_zero, List.set_cons_succ]
    rfl
  refine pure_ (i := 8) (N := some 40) (v := ?_) (a' := ?_) #[true, true, true, true, true, true, true, true, true, false, false] rfl rfl (by kernel_rfl) (fun _ _ _ h => h) (Or.inl ⟨by rfl, ?_⟩) ?_ ?_   -- nilCheck
  rotate_left
  · intro w'
    go_simp
    with_reducible rfl
  rotate_left
  · simp only [Act.put, List.setIfInBounds_toArray, List.set_cons_zero, List.set_cons_succ]
    rfl
  refine pure_ (i := 9) (N := some 41) (v := ?_) (a' := ?_) #[true, true, true, true, true, true, true, true, true, true, false] rfl rfl (by kernel_rfl) (fun _ _ _ h => h) (Or.inl ⟨by rfl, ?_⟩) ?_ ?_   -- fieldAddr
  rotate_left
  · intro w'
    go_simp
    with_reducible rfl
  rotate_left
  · simp only [Act.put, List.setIfInBounds_toArray, List.set_cons_zero, List.set_cons_succ]
    rfl
  refine last_ (i := 10) (N := none) #[true, true, true, true, true, true, true, true, true, true, true] rfl rfl (by kernel_rfl) (by decide) (fun K hK => ?_)   -- Go.Op.store 33 (Go.Operand.tmp 41) (Go.Operand.tmp 39)
  have c0 := blk_cell HBl4.out
  have f0 := blk_frozen HBl4.out
  refine skip_ (by rfl) rfl (by go_simp; rfl) ?_
  refine hK.out _ _ ?_
  clear hK K c0 f0
  refine done_ (by kernel_rfl) ?_
  have HX := Lib.hid HF4
  have HCf := Lib.hid (RV_fr (RV_bound HC.out) HF4 (fun k hk => hk.1.2.2))
  clear HF4 hG4 hHeld HS hgl hbl
  go_wp2
  go_ret
  refine ⟨rfl, .slice A1 (st.l ++ [(⟨x0, x1, x2, x3, x4⟩ : S31)]).length cap1, ⟨⟨cv, by simpa using blk_set HBl4.out 3 (.slice A1 (st.l ++ [(⟨x0, x1, x2, x3, x4⟩ : S31)]).length cap1), ?_⟩, ?_⟩, ?_, ?_⟩
  · refine RV_mono (RV_step HCf.out (fun k hk _ => Below.heap_setCell _ _ _ _ hk.1.2.1)) (fun k hk => ⟨.inl (.inl hk.1.1), hk.1.2.1, fun he => ?_⟩)
    rcases HAt.out with h | ⟨b, h, hb⟩
    · exact hk.1.2.2 (he.trans h)
    · have := hk.2
      have hkb : k = b := by rw [h] at he; injection he
      have : w2.heap.size ≤ b := hb
      omega
  · exact G_set HG4.out (p := ⟨g, 3, none⟩) (fun h => h.2 rfl) _
  · exact (Fr.of_below HB2.out _).trans ((HX.out.mono (S1 := Mine g (.slice A st.l.length c)) (fun _ _ h => .inr h)).setCell (p := ⟨g, 3, none⟩) (.inl (.inl rfl)) _) (fun i hi => .inl hi)
  · rcases HAt.out with h | ⟨b, h, hb⟩
    · exact fun k hk => .inl (by rw [← h, hk])
    · exact fun k hk => .inr (by rw [h] at hk; injection hk with hk; have : w2.heap.size ≤ b := hb; omega)

theorem rappend_any {g : Nat} {w : World} {ok : Nat → Prop} {lv : Value} {st : LS} (h : IsL 76 g w ok lv st) (hok : LSok st) (x : S31) (cv : Value) {okx : Nat → Prop} (hr : RV (Kd.int .i64) w okx cv x.f4) (hx : ∀ k, okx k → k ≠ g ∧ some k ≠ lv.ownBlock) :
    Calls Try.prog 24 #[.pointer (some ⟨g, 0, none⟩), entV x cv] w fun e w' => e = .returned (.int .i64 (st.append x).2) ∧ Left 76 g w (fun k => ok k ∨ okx k) lv (st.append x).1 w' := by
  have hl : ∀ {w' : World}, Below w.heap.size w w' → Left 76 g w (fun k => ok k ∨ okx k) lv st w' := fun {w'} hb => IsL.left (h.mono (fun k hk => .inl hk)) hb
  unfold LS.append
  by_cases h1 : mayE x = false
  · rw [if_pos h1]; exact (rappend_may h hok x cv hr h1).mono fun e w' ⟨a, b⟩ => ⟨a, hl b⟩
  rw [if_neg h1]
  have h1' : mayE x = true := by simpa using h1
  by_cases h2 : x.f0 ≠ IntKind.u64.wrap (st.last.1 + 1)
  · rw [if_pos (.inl h2)]; exact (rappend_idx h hok x cv hr h1' (by simpa using h2)).mono fun e w' ⟨a, b⟩ => ⟨a, hl b⟩
  have h2' : (x.f0 != IntKind.u64.wrap (st.last.1 + 1)) = false := by simpa using h2
  by_cases h3 : x.f1 < st.last.2
  · rw [if_pos (.inr h3)]; exact (rappend_term h hok x cv hr h1' h2' h3).mono fun e w' ⟨a, b⟩ => ⟨a, hl b⟩
  rw [if_neg (by rintro (h | h); exact h2 h; exact h3 h)]
  by_cases h4 : 4096 ≤ st.l.length
  · rw [if_pos h4]; exact (rappend_full h hok x cv hr h1' h2' h3 h4).mono fun e w' ⟨a, b⟩ => ⟨a, hl b⟩
  · rw [if_neg h4]; exact rappend_ok h hok x cv hr hx h1' h2' h3 (by omega)
end Go.Proofs.Ytpnmodkddiljeaa

namespace Go.Proofs.Ytpnmodkddiljeaa
open Go.RowKit Go.Proofs.YtpnmodkddiljeaaW.PrintWords Go.Proofs.YtpnmodkddiljeaaW.PrintLast PEntryPlays

set_option maxHeartbeats 1000000 in
set_option maxRecDepth 100000 in
theorem rcompact_ok {g : Nat} {w : World} {ok : Nat → Prop} {lv : Value} {st : LS} (h : IsL 76 g w ok lv st) (hok : LSok st) (i : Int) (h0 : (st.termAt i).2 = 0) :
    Calls Try.prog 26 #[.pointer (some ⟨g, 0, none⟩), .int .u64 i] w fun e w' => e = .returned (.int .i64 0) ∧ Left 76 g w ok lv ⟨i, (st.termAt i).1, (st.says i).1, st.l.drop (i - st.index).toNat⟩ w' := by
  obtain ⟨hi1, hi2⟩ := termAt_in hok h0
  obtain ⟨n, hn⟩ : ∃ n : Nat, i - st.index = n := ⟨(i - st.index).toNat, by omega⟩
  rw [hn, Int.toNat_natCast]
  obtain ⟨dl, hdl⟩ : ∃ dl, st.l.drop n = dl := ⟨_, rfl⟩
  rw [hdl]
  have HD := Lib.hid hdl
  clear hdl
  have hlen := hok.len
  have hx0 := hok.i0
  have hx1 := hok.i1
  have hgl := h.lt
  have HT := Lib.hid (rterm_any h hok i)
  have H := Lib.hid h
  have HSy := Lib.hid (fun w1 hb => rconf_any (w := w1) (h.below hb) hlen i)
  clear h hok
  generalize (st.says i).1 = sc at *
  generalize (st.says i).2 = si at *
  generalize st.termAt i = p at *
  obtain ⟨a, b0⟩ := p
  dsimp only at *
  subst h0
  have q0 : IntKind.u64.wrap (i - st.index) = n := (IntWalk.u64_in _ (by omega)).trans hn
  have z2 : (0 : Int) ≤ (n : Int) := by omega
  have z3 : (n : Int) ≤ (st.l.length : Int) := by omega
  have z4 : n ≤ st.l.length := by omega
  clear hn
  go_enter Try.func26, Try.ntmps26
  go_wp2_with fail
  refine HT.out.mono ?_
  rintro e w1 ⟨rfl, hb⟩
  have HB := Lib.hid hb
  clear hb
  go_wp2_with fail
  refine (HSy.out _ HB.out).mono ?_
  rintro e w2 ⟨v, rfl, hv, hb⟩
  have HB2 := Lib.hid (below_then HB.out HB.out.size hb)
  have HV := Lib.hid hv
  obtain ⟨Av, cv, rfl, _⟩ := hv
  obtain ⟨⟨cv0, hb1, _⟩, hl1⟩ := H.out.below HB2.out
  obtain ⟨A, c, rfl, hlc⟩ := G_slice hl1
  have HL := Lib.hid hl1
  have HBl := Lib.hid hb1
  have c0 := blk_cell hb1
  have f0 := blk_frozen hb1
  clear hb hb1 hl1
  go_wp2_with fail
  clear c0 f0
  have HBl3 := Lib.hid (by simpa using blk_set HBl.out 2 (.slice Av sc.length cv))
  have HL3 := Lib.hid (G_set HL.out (p := ⟨g, 2, none⟩) (fun h => h.2 rfl) (.slice Av sc.length cv))
  have HF3 := Lib.hid ((Fr.of_below HB2.out (fun k => k = g)).setCell (p := ⟨g, 2, none⟩) (.inl rfl) (.slice Av sc.length cv))
  have HV3 := Lib.hid (RV_step HV.out (fun k hk _ => Below.heap_setCell w2 ⟨g, 2, none⟩ (.slice Av sc.length cv) k hk.2.1))
  generalize w2.setCell ⟨g, 2, none⟩ (.slice Av sc.length cv) = w3 at *
  clear HB2 HV HL HBl HB
  have d3 := blk_cell HBl3.out 3
  have d0 := blk_cell HBl3.out 0
  simp only [List.getElem?_toArray, List.getElem?_cons_succ, List.getElem?_cons_zero] at d3 d0
  have HS : ∀ w', Fr w3 w' (fun _ => False) → (fun w' => w'.cell? ⟨g, 3, none⟩ = some (.slice A st.l.length c) ∧ w'.cell? ⟨g, 0, none⟩ = some (.int .u64 st.index)) w' := fun w' hf => ⟨hf.cell (fun h => h) d3, hf.cell (fun h => h) d0⟩
  have f3 := blk_frozen (blk_below HBl3.out (below_drew (Below.refl _ _)))
  clear d3 d0
  refine start_ (n := 15) (S := (fun w' => w'.cell? ⟨g, 3, none⟩ = some (.slice A st.l.length c) ∧ w'.cell? ⟨g, 0, none⟩ = some (.int .u64 st.index))) (ds := [14]) #[false, false, false, false, false, false, false, false, false, false, false, false, false, false, false] (by kernel_rfl) rfl rfl (by exact HS _ (Fr.refl w3 _).drew) (fun hHeld => ?_)
  refine pure_ (i := 0) (N := some 28) (v := ?_) (a' := ?_) #[true, false, false, false, false, false, false, false, false, false, false, false, false, false, false] rfl rfl (by kernel_rfl) (fun _ _ _ h => h) (Or.inl ⟨by rfl, ?_⟩) ?_ ?_   -- move
  rotate_left
  · intro w'
    go_simp
    with_reducible rfl
  rotate_left
  · simp only [Act.put, List.setIfInBounds_toArray, List.set_cons_zero, List.set_cons_succ]
    rfl
  refine pure_ (i := 1) (N := some 29) (v := ?_) (a' := ?_) #[true, true, false, false, false, false, false, false, false, false, false, false, false, false, false] rfl rfl (by kernel_rfl) (fun _ _ _ h => h) (Or.inl ⟨by rfl, ?_⟩) ?_ ?_   -- move
  rotate_left
  · intro w'
    go_simp
    with_reducible rfl
  rotate_left
  · simp only [Act.put, List.setIfInBounds_toArray, List.set_cons_zero, List.set_cons_succ]
    rfl
  refine pure_ (i := 2) (N := some 30) (v := ?_) (a' := ?_) #[true, true, true, false, false, false, false, false, false, false, false, false, false, false, false] rfl rfl (by kernel_rfl) (fun _ _ _ h => h) (Or.inl ⟨by rfl, ?_⟩) ?_ ?_   -- nilCheck
  rotate_left
  · intro w'
    go_simp
    with_reducible rfl
  rotate_left
  · simp only [Act.put, List.setIfInBounds_toArray, List.set_cons_zero, List.set_cons_succ]
    rfl
  refine pure_ (i := 3) (N := some 31) (v := ?_) (a' := ?_) #[true, true, true, true, false, false, false, false, false, false, false, false, false, false, false] rfl rfl (by kernel_rfl) (fun _ _ _ h => h) (Or.inl ⟨by rfl, ?_⟩) ?_ ?_   -- fieldAddr
  rotate_left
  · intro w'
    go_simp
    with_reducible rfl
  rotate_left
  · simp only [Act.put, List.setIfInBounds_toArray, List.set_cons_zero, List.set_cons_succ]
    rfl
  refine pure_ (i := 5) (N := some 33) (v := ?_) (a' := ?_) #[true, true, true, true, false, true, false, false, false, false, false, false, false, false, false] rfl rfl (by kernel_rfl) (fun _ _ _ h => h) (Or.inl ⟨by rfl, ?_⟩) ?_ ?_   -- move
  rotate_left
  · intro w'
    go_simp
    with_reducible rfl
  rotate_left
  · simp only [Act.put, List.setIfInBounds_toArray, List.set_cons_zero, List.set_cons_succ]
    rfl
  refine pure_ (i := 6) (N := some 34) (v := ?_) (a' := ?_) #[true, true, true, true, false, true, true, false, false, false, false, false, false, false, false] rfl rfl (by kernel_rfl) (fun _ _ _ h => h) (Or.inl ⟨by rfl, ?_⟩) ?_ ?_   -- move
  rotate_left
  · intro w'
    go_simp
    with_reducible rfl
  rotate_left
  · simp only [Act.put, List.setIfInBounds_toArray, List.set_cons_zero, List.set_cons_succ]
    rfl
  refine pure_ (i := 7) (N := some 35) (v := ?_) (a' := ?_) #[true, true, true, true, false, true, true, true, false, false, false, false, false, false, false] rfl rfl (by kernel_rfl) (fun _ _ _ h => h) (Or.inl ⟨by rfl, ?_⟩) ?_ ?_   -- nilCheck
  rotate_left
  · intro w'
    go_simp
    with_reducible rfl
  rotate_left
  · simp only [Act.put, List.setIfInBounds_toArray, List.set_cons_zero, List.set_cons_succ]
    rfl
  refine pure_ (i := 8) (N := some 36) (v := ?_) (a' := ?_) #[true, true, true, true, false, true, true, true, true, false, false, false, false, false, false] rfl rfl (by kernel_rfl) (fun _ _ _ h => h) (Or.inl ⟨by rfl, ?_⟩) ?_ ?_   -- fieldAddr
  rotate_left
  · intro w'
    go_simp
    with_reducible rfl
  rotate_left
  · simp only [Act.put, List.setIfInBounds_toArray, List.set_cons_zero, List.set_cons_succ]
    rfl
  refine take_ (i := 4) (N := some 32) (v := ?_) (a' := ?_) #[true, true, true, true, true, true, true, true, true, false, false, false, false, false, false] rfl rfl (by kernel_rfl) (fun _ _ _ h => h) (Or.inl ⟨by rfl, ?_⟩) hHeld ?_ ?_   -- Go.Op.load 33 (Go.Operand.tmp 31)
  rotate_left
  · rintro w' ⟨s0, s1⟩
    go_simp
    with_reducible rfl
  rotate_left
  · simp only [Act.put, List.setIfInBounds_toArray, List.set_cons_zero, List.set_cons_succ]
    rfl
  refine take_ (i := 9) (N := some 37) (v := ?_) (a' := ?_) #[true, true, true, true, true, true, true, true, true, true, false, false, false, false, false] rfl rfl (by kernel_rfl) (fun _ _ _ h => h) (Or.inl ⟨by rfl, ?_⟩) hHeld ?_ ?_   -- Go.Op.load 27 (Go.Operand.tmp 36)
  rotate_left
  · rintro w' ⟨s0, s1⟩
    go_simp
    with_reducible rfl
  rotate_left
  · simp only [Act.put, List.setIfInBounds_toArray, List.set_cons_zero, List.set_cons_succ]
    rfl
  refine pure_ (i := 10) (N := some 38) (v := ?_) (a' := ?_) #[true, true, true, true, true, true, true, true, true, true, true, false, false, false, false] rfl rfl (by kernel_rfl) (fun _ _ _ h => h) (Or.inl ⟨by rfl, ?_⟩) ?_ ?_   -- binOp
  rotate_left
  · intro w'
    go_simp
    with_reducible rfl
  rotate_left
  · simp only [Act.put, List.setIfInBounds_toArray, List.set_cons_zero, List.set_cons_succ]
    rfl
  refine pure_ (i := 11) (N := some 39) (v := ?_) (a' := ?_) #[true, true, true, true, true, true, true, true, true, true, true, true, false, false, false] rfl rfl (by kernel_rfl) (fun _ _ _ h => h) (Or.inl ⟨by rfl, ?_⟩) ?_ ?_   -- slice
  rotate_left
  · intro w'
    go_simp
    with_reducible rfl
  rotate_left
  · simp only [Act.put, List.setIfInBounds_toArray, List.set_cons_zero, List.set_cons_succ]
    rfl
  refine pure_ (i := 12) (N := some 40) (v := ?_) (a' := ?_) #[true, true, true, true, true, true, true, true, true, true, true, true, true, false, false] rfl rfl (by kernel_rfl) (fun _ _ _ h => h) (Or.inl ⟨by rfl, ?_⟩) ?_ ?_   -- nilCheck
  rotate_left
  · intro w'
    go_simp
    with_reducible rfl
  rotate_left
  · simp only [Act.put, List.setIfInBounds_toArray, List.set_cons_zero, List.set_cons_succ]
    rfl
  refine pure_ (i := 13) (N := some 41) (v := ?_) (a' := ?_) #[true, true, true, true, true, true, true, true, true, true, true, true, true, true, false] rfl rfl (by kernel_rfl) (fun _ _ _ h => h) (Or.inl ⟨by rfl, ?_⟩) ?_ ?_   -- fieldAddr
  rotate_left
  · intro w'
    go_simp
    with_reducible rfl
  rotate_left
  · simp only [Act.put, List.setIfInBounds_toArray, List.set_cons_zero, List.set_cons_succ]
    rfl
  refine last_ (i := 14) (N := none) #[true, true, true, true, true, true, true, true, true, true, true, true, true, true, true] rfl rfl (by kernel_rfl) (by decide) (fun K hK => ?_)   -- Go.Op.store 33 (Go.Operand.tmp 41) (Go.Operand.tmp 39)
  have c0 := blk_cell (blk_below HBl3.out (below_drew (Below.refl _ _)))
  refine skip_ (by rfl) rfl (by go_simp; rfl) ?_
  refine hK.out _ _ ?_
  clear hK K c0 f3
  refine done_ (by kernel_rfl) ?_
  have hdl : st.l.length - n = dl.length := by rw [← HD.out]; simp
  have HDr := Lib.hid (by have := G_drop (G_drew HL3.out) (m := n) z4; rwa [HD.out] at this)
  have hown : (Value.slice (if c = n then A else Option.map (fun x => x.add (n * 5)) A) (st.l.length - n) (c - n)).ownBlock = (Value.slice A st.l.length c).ownBlock := by
    cases A with
    | none => split <;> rfl
    | some ad => split <;> simp [Value.ownBlock, add_block]
  obtain ⟨nv, hnv⟩ : ∃ nv, (Value.slice (if c = n then A else Option.map (fun x => x.add (n * 5)) A) (st.l.length - n) (c - n)) = nv := ⟨_, rfl⟩
  have hDr2 : G k31 31 w3.drew (fun k => ok k ∧ k ≠ g) nv dl := by rw [← hnv]; exact HDr.out
  rw [hnv] at hown ⊢
  have HOwn := Lib.hid hown
  have HG4 := Lib.hid (G_set hDr2 (p := ⟨g, 3, none⟩) (fun h => h.2 rfl) nv)
  have HBl4 := Lib.hid (show (w3.drew.setCell ⟨g, 3, none⟩ nv).heap[g]? = some (.cells #[.int .u64 st.index, .int .u64 st.term, .slice Av sc.length cv, nv] 76 (0, 0)) from by simpa using blk_set (blk_below HBl3.out (below_drew (Below.refl _ _))) 3 nv)
  have HV4 := Lib.hid (RV_step (RV_below HV3.out (below_drew (Below.refl w3.heap.size w3))) (fun k hk _ => Below.heap_setCell w3.drew ⟨g, 3, none⟩ nv k hk.2.1))
  have HF4 := Lib.hid ((HF3.out.drew).setCell (p := ⟨g, 3, none⟩) (.inl rfl) nv)
  clear hnv hDr2 hown HS hHeld HDr HL3 HBl3 HV3 HF3
  rw [show w3.drew.setCell ⟨g, 3, none⟩ nv = (w3.setCell ⟨g, 3, none⟩ nv).drew from rfl] at HG4 HBl4 HV4 HF4
  generalize (w3.setCell ⟨g, 3, none⟩ nv).drew = w5 at *
  have c0 := blk_cell HBl4.out
  have f0 := blk_frozen HBl4.out
  go_wp2_with fail
  go_ret
  refine ⟨rfl, nv, ⟨⟨.slice Av sc.length cv, ?_, ?_⟩, ?_⟩, ?_, ?_⟩
  · have := blk_set (blk_set HBl4.out 0 (.int .u64 i)) 1 (.int .u64 a)
    simpa using this
  · refine RV_mono (RV_step (RV_step HV4.out (fun k hk _ => Below.heap_setCell w5 ⟨g, 0, none⟩ (.int .u64 i) k hk.2.1)) (fun k hk _ => Below.heap_setCell (w5.setCell ⟨g, 0, none⟩ (.int .u64 i)) ⟨g, 1, none⟩ (.int .u64 a) k hk.2.1)) (fun k hk => ⟨.inl hk.1, hk.2.1, by rw [HOwn.out]; exact hk.2.2⟩)
  · exact G_mono (G_set (G_set HG4.out (p := ⟨g, 0, none⟩) (fun h => h.2 rfl) _) (p := ⟨g, 1, none⟩) (fun h => h.2 rfl) _) (fun k hk => ⟨.inl hk.1, hk.2⟩)
  · exact ((HF4.out.mono (S1 := Mine g (.slice A st.l.length c)) (fun _ _ h => .inl h)).setCell (p := ⟨g, 0, none⟩) (.inl (.inl rfl)) _).setCell (p := ⟨g, 1, none⟩) (.inl (.inl rfl)) _
  · intro k hk
    exact .inl (by rw [← HOwn.out, hk])

set_option maxHeartbeats 400000 in
theorem rcompact_no {g : Nat} {w : World} {ok : Nat → Prop} {lv : Value} {st : LS} (h : IsL 76 g w ok lv st) (hok : LSok st) (i : Int) (h0 : ¬ (st.termAt i).2 = 0) :
    Calls Try.prog 26 #[.pointer (some ⟨g, 0, none⟩), .int .u64 i] w fun e w' => e = .returned (.int .i64 (st.termAt i).2) ∧ Below w.heap.size w w' := by
  have HT := Lib.hid (rterm_any h hok i)
  clear h hok
  generalize st.termAt i = p at *
  obtain ⟨a, b⟩ := p
  dsimp only at *
  have hb1 : (b != 0) = true := by simpa using h0
  clear h0
  go_enter Try.func26, Try.ntmps26
  go_wp2_with fail
  refine HT.out.mono ?_
  rintro e w1 ⟨rfl, hb⟩
  have HB := Lib.hid hb
  clear hb
  go_wp2
  go_ret
  exact ⟨rfl, HB.out⟩

theorem rcompact_any {g : Nat} {w : World} {ok : Nat → Prop} {lv : Value} {st : LS} (h : IsL 76 g w ok lv st) (hok : LSok st) (i : Int) :
    Calls Try.prog 26 #[.pointer (some ⟨g, 0, none⟩), .int .u64 i] w fun e w' => e = .returned (.int .i64 (st.compact i).2) ∧ Left 76 g w ok lv (st.compact i).1 w' := by
  unfold LS.compact
  by_cases h0 : (st.termAt i).2 = 0
  · rw [if_pos h0]; exact rcompact_ok h hok i h0
  · rw [if_neg h0]; exact (rcompact_no h hok i h0).mono fun e w' ⟨a, b⟩ => ⟨a, h.left b⟩
end Go.Proofs.Ytpnmodkddiljeaa

namespace Go.Proofs.Ytpnmodkddiljeaa
open Go.RowKit Go.Proofs.YtpnmodkddiljeaaW.PrintWords Go.Proofs.YtpnmodkddiljeaaW.PrintLast PEntryPlays

def segTo (l : List S31) (n M k : Nat) : List S31 := (l.drop n).take (min M (k - n))
theorem segTo_zero (l : List S31) (n M : Nat) : segTo l n M 0 = [] := by simp [segTo]
theorem segTo_low {l : List S31} {n M k : Nat} (h : k < n) : segTo l n M (k + 1) = segTo l n M k := by
  unfold segTo; rw [show k + 1 - n = 0 by omega, show k - n = 0 by omega]
theorem segTo_len {l : List S31} {n M k : Nat} (hk : k ≤ l.length) : (segTo l n M k).length = min M (k - n) := by
  unfold segTo; rw [List.length_take, List.length_drop]; omega
theorem segTo_succ {l : List S31} {n M k : Nat} (hk : k < l.length) (h : n ≤ k) (hM : k - n < M) : segTo l n M (k + 1) = segTo l n M k ++ [l[k]] := by
  unfold segTo
  rw [show min M (k + 1 - n) = (k - n) + 1 by omega, show min M (k - n) = k - n by omega, List.take_succ_eq_append_getElem (by rw [List.length_drop]; omega), List.getElem_drop]
  simp only [show n + (k - n) = k by omega]
theorem segTo_end {l : List S31} {n M k : Nat} (hk : k = l.length ∨ M ≤ k - n) : segTo l n M k = (l.drop n).take M := by
  unfold segTo
  rcases hk with rfl | hk
  · rw [List.take_eq_take_min (i := M), List.length_drop]
  · rw [Nat.min_eq_left hk]

set_option maxHeartbeats 400000 in
theorem rslice_low {g : Nat} {w : World} (i most : Int) (hm : most < 1) :
    Calls Try.prog 27 #[.pointer (some ⟨g, 0, none⟩), .int .u64 i, .int .i64 most] w fun e w' => e = .returned (.tuple #[.slice none 0 0, .int .i64 2]) ∧ Below w.heap.size w w' := by
  go_enter Try.func27, Try.ntmps27
  go_wp2
  go_ret2
  exact ⟨rfl, Below.refl _ _⟩
set_option maxHeartbeats 400000 in
theorem rslice_high {g : Nat} {w : World} (i most : Int) (hm : ¬ most < 1) (hm2 : 4096 < most) :
    Calls Try.prog 27 #[.pointer (some ⟨g, 0, none⟩), .int .u64 i, .int .i64 most] w fun e w' => e = .returned (.tuple #[.slice none 0 0, .int .i64 2]) ∧ Below w.heap.size w w' := by
  go_enter Try.func27, Try.ntmps27
  go_wp2
  go_ret2
  exact ⟨rfl, Below.refl _ _⟩
set_option maxHeartbeats 400000 in
theorem rslice_gone {g : Nat} {w : World} {ok : Nat → Prop} {lv : Value} {st : LS} (h : IsL 76 g w ok lv st) (i most : Int) (hm : ¬ most < 1) (hm2 : ¬ 4096 < most) (hi : i ≤ st.index) :
    Calls Try.prog 27 #[.pointer (some ⟨g, 0, none⟩), .int .u64 i, .int .i64 most] w fun e w' => e = .returned (.tuple #[.slice none 0 0, .int .i64 260]) ∧ Below w.heap.size w w' := by
  obtain ⟨⟨cv, hb, hc⟩, hl⟩ := h
  have c0 := blk_cell hb
  clear hb hc hl
  go_enter Try.func27, Try.ntmps27
  go_wp2
  go_ret2
  exact ⟨rfl, Below.refl _ _⟩
set_option maxHeartbeats 1000000 in
set_option maxRecDepth 100000 in
theorem rslice_ok {g : Nat} {w : World} {ok : Nat → Prop} {lv : Value} {st : LS} (h : IsL 76 g w ok lv st) (hok : LSok st) (i most : Int) (M n : Nat) (hM : most = M) (hm1 : 1 ≤ M) (hm2 : M ≤ 4096) (hn : i = st.index + n + 1) :
    Calls Try.prog 27 #[.pointer (some ⟨g, 0, none⟩), .int .u64 i, .int .i64 most] w fun e w' => ∃ v, e = .returned (.tuple #[v, .int .i64 0]) ∧ G k31 31 w' (fun k => ok k ∨ w.heap.size ≤ k) v ((st.l.drop n).take M) ∧ Below w.heap.size w w' := by
  subst hM
  have hlen := hok.len
  have HSeq := Lib.hid hok.seq
  have H := Lib.hid (IsL.bound h)
  obtain ⟨A, c, rfl, _⟩ := G_slice h.l
  obtain ⟨⟨cv, hb, _⟩, _⟩ := h
  have c0 := blk_cell hb
  have HN := Lib.hid hn
  have p1 : ¬ (M : Int) < 1 := by omega
  have p2 : ¬ 4096 < (M : Int) := by omega
  have p3 : ¬ i ≤ st.index := by omega
  clear hb hok hn
  go_enter Try.func27, Try.ntmps27
  go_wp2_with fail
  clear c0
  go_loopw [8, 9] (fun v i wr => ∃ k : Nat, k ≤ st.l.length ∧ i = .int .i64 k ∧ G k31 31 wr (fun b => ok b ∨ w.heap.size ≤ b) v (segTo st.l n M k) ∧ (∀ b, v.ownBlock = some b → w.heap.size ≤ b) ∧ Below w.heap.size w wr) (fun _ i _ => st.l.length - (intOf i).toNat)
  case atStart => exact ⟨0, Nat.zero_le _, rfl, by rw [segTo_zero]; exact G_nil _ _ _ _, (fun b hb => by simp [Value.ownBlock] at hb), Below.refl _ _⟩
  case round =>
    obtain ⟨k, hk, rfl, hv, hfr, hB⟩ := hrel
    have HV := Lib.hid hv
    have HFr := Lib.hid hfr
    have HB := Lib.hid hB
    obtain ⟨Av, ca, hve, _⟩ := G_slice hv
    have hsl := segTo_len (n := n) (M := M) hk
    obtain ⟨L, hL⟩ : ∃ L, (segTo st.l n M k).length = L := ⟨_, rfl⟩
    rw [hL] at hve hsl
    subst hve
    obtain ⟨⟨cv2, hb2, _⟩, hl2⟩ := H.out.below hB
    have c03 := blk_cell hb2 3
    simp only [List.getElem?_toArray, List.getElem?_cons_succ, List.getElem?_cons_zero] at c03
    have HG := Lib.hid hl2
    have HL := Lib.hid hL
    have hwr := hB.size
    clear hv hfr hB hb2 hl2 hL
    by_cases hlt : k < st.l.length
    · have q1 : IntKind.i64.wrap ((k : Int) + 1) = (k + 1 : Nat) := IntWalk.i64_in _ (by omega)
      obtain ⟨b, off, A4, c4, rfl, e0, e1, e2, e3, e4, hl4, hF4⟩ := G_ent2 HG.out k hlt
      have hseq := HSeq.out k hlt
      have HF4 := Lib.hid hF4
      have HX := Lib.hid (show st.l[k] = st.l[k] from rfl)
      have HSu := Lib.hid (fun h1 h2 => segTo_succ (n := n) (M := M) hlt h1 h2)
      have hn := HN.out
      clear hF4 HX
      generalize st.l[k] = x at *
      by_cases hLM : L < M
      · have r1 : (L : Int) < (M : Int) := by omega
        by_cases hkn : n ≤ k
        · have r2 : x.f0 ≥ i := by omega
          have HSu2 := Lib.hid (HSu.out hkn (by omega))
          have hl64 : ((segTo st.l n M k).length + 1) * 64 ≤ 140737488355328 := by rw [HL.out]; omega
          have HV2 := Lib.hid (HL.out ▸ HV.out)
          clear HSu hseq hn hsl
          go_wp2_with (at_builtin; refine G_append k31 rfl (.tmp 47) (.tmp 55) 33 31 _ 64 rfl Try.underlying33 ent_info rfl (by decide) (.slice Av L ca) (segTo st.l n M k) x _ (fun b => ok b ∨ w.heap.size ≤ b) (fun b => ok b ∧ b < w.heap.size) rfl rfl (k31_mkF wr _ x hl4 (Kd.F_mono HF4.out (fun b hb => hb.1.1))) (fun b hb => ⟨.inl hb.1, fun he => by have := HFr.out b he.symm; omega⟩) (fun b hb => .inr (by omega)) HV.out hl64 ?_; intro v4 w4 hG4 hg4 hat4 _)
          refine ⟨⟨k + 1, by omega, by simp, by rw [HSu2.out]; exact hG4, ?_, ?_⟩, by simp [intOf]; omega⟩
          · rcases hat4 with h | ⟨b', h, hb'⟩
            · exact fun b hb => HFr.out b (h ▸ hb)
            · intro b hb
              rw [h] at hb
              injection hb with hb
              have : wr.heap.size ≤ b' := hb'
              omega
          · exact ((Fr.of_below HB.out (fun _ => False)).then_grown hg4 (fun i hi => .inr (HFr.out i hi))).below (fun _ h => h.elim)
        · have r2 : ¬ x.f0 ≥ i := by omega
          have HSu2 := Lib.hid (segTo_low (l := st.l) (M := M) (show k < n by omega))
          clear HSu hseq hn hsl
          go_wp2_with fail
          exact ⟨⟨k + 1, by omega, by simp, by rw [HSu2.out]; exact HL.out ▸ HV.out, HFr.out, HB.out⟩, by simp [intOf]; omega⟩
      · have r1 : ¬ (L : Int) < (M : Int) := by omega
        have HE := Lib.hid (segTo_end (l := st.l) (n := n) (M := M) (k := k) (.inr (by omega)))
        clear HSu hseq hn hsl
        go_wp2_with fail
        go_ret2
        exact ⟨_, rfl, by rw [← HE.out]; exact HL.out ▸ HV.out, HB.out⟩
    · obtain rfl : k = st.l.length := by omega
      have HE := Lib.hid (segTo_end (l := st.l) (n := n) (M := M) (k := st.l.length) (.inl rfl))
      clear hsl
      go_wp2_with fail
      go_ret2
      exact ⟨_, rfl, by rw [← HE.out]; exact HL.out ▸ HV.out, HB.out⟩
theorem rslice_any {g : Nat} {w : World} {ok : Nat → Prop} {lv : Value} {st : LS} (h : IsL 76 g w ok lv st) (hok : LSok st) (i most : Int) :
    Calls Try.prog 27 #[.pointer (some ⟨g, 0, none⟩), .int .u64 i, .int .i64 most] w fun e w' => ∃ v, e = .returned (.tuple #[v, .int .i64 (st.slice i most).2]) ∧ G k31 31 w' (fun k => ok k ∨ w.heap.size ≤ k) v (st.slice i most).1 ∧ Below w.heap.size w w' := by
  unfold LS.slice
  by_cases h1 : most < 1 ∨ 4096 < most
  · rw [if_pos h1]
    by_cases h2 : most < 1
    · exact (rslice_low i most h2).mono fun e w' ⟨a, b⟩ => ⟨_, a, G_nil _ _ _ _, b⟩
    · exact (rslice_high i most h2 (by omega)).mono fun e w' ⟨a, b⟩ => ⟨_, a, G_nil _ _ _ _, b⟩
  rw [if_neg h1]
  by_cases h2 : i ≤ st.index
  · rw [if_pos h2]
    exact (rslice_gone h i most (fun h => h1 (.inl h)) (fun h => h1 (.inr h)) h2).mono fun e w' ⟨a, b⟩ => ⟨_, a, G_nil _ _ _ _, b⟩
  rw [if_neg h2]
  exact rslice_ok h hok i most most.toNat (i - st.index - 1).toNat (by omega) (by omega) (by omega) (by omega)

theorem rconfB_calls {w : World} {ok : Nat → Prop} {cv : Value} (xs : List Int) (hr : RV (Kd.int .i64) w ok cv xs) :
    Calls Try.prog 42 #[cv] w fun e w' => e = .returned (.bool (confB xs)) ∧ Below w.heap.size w w' := by
  have hm := RV_max hr
  obtain ⟨A, c, rfl, hl, hf⟩ := hr
  exact (codicilref23_MayConf.calls _ _ _ _ _ _ (Kd.F_now hf) hl (mayConf_ref xs hm _ (Nat.lt_succ_self _))).mono fun _ _ h => ⟨h.1, h.2.below⟩

set_option maxHeartbeats 1000000 in
theorem rnew_bad (i t : Int) (xs : List Int) {w : World} {ok : Nat → Prop} {cv : Value} (hr : RV (Kd.int .i64) w ok cv xs) (hn : newOk i t xs = false) :
    Calls Try.prog 22 #[.int .u64 i, .int .u64 t, cv] w fun e w' => e = .returned (.pointer none) ∧ Below w.heap.size w w' := by
  have HR := Lib.hid hr
  obtain ⟨A, c, rfl, _⟩ := hr
  by_cases h1 : 281474976710656 < i
  ·
    clear hn
    go_enter Try.func22, Try.ntmps22
    go_wp2
    go_ret
    exact ⟨rfl, Below.refl _ _⟩
  by_cases h2 : 281474976710656 < t
  ·
    clear hn
    go_enter Try.func22, Try.ntmps22
    go_wp2
    go_ret
    exact ⟨rfl, Below.refl _ _⟩
  cases h3 : ((i == 0) == (t == 0)) with
  | false =>
    clear hn
    go_enter Try.func22, Try.ntmps22
    go_wp2
    go_ret
    exact ⟨rfl, Below.refl _ _⟩
  | true =>
    have hc : confB xs = false := by
      unfold newOk at hn
      rw [h3, decide_eq_true (by omega), decide_eq_true (by omega)] at hn
      simpa using hn
    clear hn
    go_enter Try.func22, Try.ntmps22
    go_wp2_with fail
    refine (rconfB_calls xs HR.out).mono ?_
    rintro e w1 ⟨rfl, hb⟩
    rw [hc]
    have HB := Lib.hid hb
    clear hb
    go_wp2
    go_ret
    exact ⟨rfl, HB.out⟩

set_option maxHeartbeats 1000000 in
theorem rnew_ok (i t : Int) (xs : List Int) {w : World} {ok : Nat → Prop} {cv : Value} (hr : RV (Kd.int .i64) w ok cv xs) (hn : newOk i t xs = true) :
    Calls Try.prog 22 #[.int .u64 i, .int .u64 t, cv] w fun e w' => ∃ g, e = .returned (.pointer (some ⟨g, 0, none⟩)) ∧ w.heap.size ≤ g ∧ IsL 76 g w' (fun k => ok k ∧ k < w.heap.size) (.slice none 0 0) ⟨i, t, xs, []⟩ ∧ Below w.heap.size w w' := by
  have HR := Lib.hid (RV_bound hr)
  obtain ⟨A, c, rfl, _, _⟩ := hr
  simp only [newOk, Bool.and_eq_true, decide_eq_true_eq] at hn
  obtain ⟨h1, h2, h3, hc⟩ := hn
  have h1' : ¬ 281474976710656 < i := by omega
  have h2' : ¬ 281474976710656 < t := by omega
  go_enter Try.func22, Try.ntmps22
  go_wp2_with fail
  refine (rconfB_calls xs HR.out).mono ?_
  rintro e w1 ⟨rfl, hb⟩
  rw [hc]
  have HB := Lib.hid hb
  clear hb
  go_wp2
  go_ret
  refine ⟨_, rfl, HB.out.size, ⟨⟨.slice A xs.length c, blk_new w1 _, ?_⟩, G_nil _ _ _ _⟩, below_alloc HB.out _⟩
  have hs := HB.out.size
  exact RV_mono (RV_below (RV_below HR.out HB.out) (below_alloc (Below.refl _ _) _)) (fun k hk => ⟨hk, by have := hk.2; omega, by simp [Value.ownBlock]⟩)
end Go.Proofs.Ytpnmodkddiljeaa
