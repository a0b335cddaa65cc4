/- New, Conf, ConfAt. Conditions: the log is in order. -/
import Derived.Test.YtpnmodkddiljeaaHint
namespace Go.Proofs.Ytpnmodkddiljeaa
open Go.RowKit Go.Proofs.YtpnmodkddiljeaaW.PrintWords Go.Proofs.YtpnmodkddiljeaaW.PrintLast PEntryPlays Go.Shelf

set_option maxHeartbeats 400000 in
theorem conf_nil (w : World) : Calls Try.prog 28 #[.pointer none] w fun e w' => e = .returned (.tuple #[.slice none 0 0, .int .u64 0]) ∧ Below w.heap.size w w' := by
  go_enter Try.func28, Try.ntmps28
  go_wp2_with fail
  refine (made_nil _).mono ?_
  rintro e w' ⟨rfl, rfl⟩
  go_wp2
  go_ret2
  exact ⟨rfl, Below.refl _ _⟩
set_option maxHeartbeats 400000 in
theorem conf_any {g : Nat} {w : World} {ok : Nat → Prop} {lv : Value} {st : LS} (h : IsL 70 g w ok lv st) (hok : LSok st) :
    Calls Try.prog 28 #[.pointer (some ⟨g, 0, none⟩)] w fun e w' => ∃ v, e = .returned (.tuple #[v, .int .u64 (st.says st.last.1).2]) ∧ G (Kd.int .i64) 3 w' (fun k => w.heap.size ≤ k) v (st.says st.last.1).1 ∧ Below w.heap.size w w' := by
  have hcl := (confB_len hok.conf).1
  have H := Lib.hid h
  have HO := Lib.hid hok
  clear h hok
  go_enter Try.func28, Try.ntmps28
  go_wp2_with fail
  refine (made_any H.out hcl).mono ?_
  rintro e w' ⟨rfl, rfl⟩
  go_wp2_with fail
  refine (last_any H.out HO.out.len).mono ?_
  rintro e w1 ⟨rfl, hb⟩
  have HB := Lib.hid hb
  clear hb
  go_wp2_with fail
  refine (says_any (H.out.below HB.out) HO.out _).mono ?_
  rintro e w2 ⟨v, rfl, hv, hb⟩
  have HB2 := Lib.hid (below_then HB.out HB.out.size hb)
  have HV := Lib.hid (G_mono hv (fun k hk => Nat.le_trans HB.out.size hk))
  obtain ⟨Av, cv, rfl, _⟩ := G_slice hv
  clear hv hb
  go_wp2
  go_ret2
  exact ⟨_, rfl, HV.out, HB2.out⟩

set_option maxHeartbeats 400000 in
theorem confAt_nil (i : Int) (w : World) : Calls Try.prog 31 #[.pointer none, .int .u64 i] w fun e w' => e = .returned (.tuple #[.slice none 0 0, .int .i64 1]) ∧ Below w.heap.size w w' := by
  go_enter Try.func31, Try.ntmps31
  go_wp2_with fail
  refine (term_nil i _).mono ?_
  rintro e w1 ⟨rfl, hb⟩
  have HB := Lib.hid hb
  clear hb
  go_wp2
  go_ret2
  exact ⟨rfl, HB.out⟩
def LS.confAt (st : LS) (i : Int) : List Int × Int := if (st.termAt i).2 = 0 then ((st.says i).1, 0) else ([], (st.termAt i).2)
set_option maxHeartbeats 400000 in
theorem confAt_any {g : Nat} {w : World} {ok : Nat → Prop} {lv : Value} {st : LS} (h : IsL 70 g w ok lv st) (hok : LSok st) (i : Int) :
    Calls Try.prog 31 #[.pointer (some ⟨g, 0, none⟩), .int .u64 i] w fun e w' => ∃ v, e = .returned (.tuple #[v, .int .i64 (st.confAt i).2]) ∧ G (Kd.int .i64) 3 w' (fun k => w.heap.size ≤ k) v (st.confAt i).1 ∧ Below w.heap.size w w' := by
  have H := Lib.hid h
  have HO := Lib.hid hok
  have HT := Lib.hid (term_any h hok i)
  clear h hok
  unfold LS.confAt
  generalize st.termAt i = p at *
  obtain ⟨a, b⟩ := p
  dsimp only at *
  by_cases hb0 : b = 0
  · rw [if_pos hb0]
    have hb1 : (b != 0) = false := by simpa using hb0
    clear hb0
    go_enter Try.func31, Try.ntmps31
    go_wp2_with fail
    refine HT.out.mono ?_
    rintro e w1 ⟨rfl, hb⟩
    have HB := Lib.hid hb
    clear hb
    go_wp2_with fail
    refine (says_any (H.out.below HB.out) HO.out _).mono ?_
    rintro e w2 ⟨v, rfl, hv, hb⟩
    have HB2 := Lib.hid (below_then HB.out HB.out.size hb)
    have HV := Lib.hid (G_mono hv (fun k hk => Nat.le_trans HB.out.size hk))
    obtain ⟨Av, cv, rfl, _⟩ := G_slice hv
    clear hv hb
    go_wp2
    go_ret2
    exact ⟨_, rfl, HV.out, HB2.out⟩
  · rw [if_neg hb0]
    have hb1 : (b != 0) = true := by simpa using hb0
    clear hb0
    go_enter Try.func31, Try.ntmps31
    go_wp2_with fail
    refine HT.out.mono ?_
    rintro e w1 ⟨rfl, hb⟩
    have HB := Lib.hid hb
    clear hb
    go_wp2
    go_ret2
    exact ⟨_, rfl, G_nil _ _ _ _, HB.out⟩

/-- What New takes. -/
def newOk (i t : Int) (conf : List Int) : Bool := decide (i ≤ 281474976710656) && (decide (t ≤ 281474976710656) && (((i == 0) == (t == 0)) && confB conf))
theorem member_calls {w : World} {ok : Nat → Prop} {cv : Value} (xs : List Int) (hr : RV (Kd.int .i64) w ok cv xs) :
    Calls Try.prog 34 #[cv] w fun e w' => e = .returned (.bool (confB xs)) ∧ Below w.heap.size w w' := by
  have hm := RV_max hr
  obtain ⟨A, c, rfl, hl, hf⟩ := hr
  exact (member_May.calls _ _ _ _ _ _ (Kd.F_now hf) hl (mayConf_member xs hm _ (Nat.lt_succ_self _))).mono fun _ _ h => ⟨h.1, h.2.below⟩

set_option maxHeartbeats 1000000 in
theorem new_bad (i t : Int) (xs : List Int) {w : World} {ok : Nat → Prop} {cv : Value} (hr : RV (Kd.int .i64) w ok cv xs) (hn : newOk i t xs = false) :
    Calls Try.prog 8 #[.int .u64 i, .int .u64 t, cv] w fun e w' => e = .returned (.tuple #[.pointer none, .int .i64 2]) ∧ Below w.heap.size w w' := by
  have HR := Lib.hid hr
  obtain ⟨A, c, rfl, _⟩ := hr
  by_cases h1 : 281474976710656 < i
  · clear hn
    go_enter Try.func8, Try.ntmps8
    go_wp2
    go_ret2
    exact ⟨rfl, Below.refl _ _⟩
  by_cases h2 : 281474976710656 < t
  · clear hn
    go_enter Try.func8, Try.ntmps8
    go_wp2
    go_ret2
    exact ⟨rfl, Below.refl _ _⟩
  cases h3 : ((i == 0) == (t == 0)) with
  | false =>
    clear hn
    go_enter Try.func8, Try.ntmps8
    go_wp2
    go_ret2
    exact ⟨rfl, Below.refl _ _⟩
  | true =>
    have hc : confB xs = false := by
      unfold newOk at hn
      rw [h3, decide_eq_true (by omega), decide_eq_true (by omega)] at hn
      simpa using hn
    clear hn
    go_enter Try.func8, Try.ntmps8
    go_wp2_with fail
    refine (member_calls xs HR.out).mono ?_
    rintro e w1 ⟨rfl, hb⟩
    rw [hc]
    have HB := Lib.hid hb
    clear hb
    go_wp2
    go_ret2
    exact ⟨rfl, HB.out⟩

set_option maxHeartbeats 1000000 in
theorem new_ok (i t : Int) (xs : List Int) {w : World} {ok : Nat → Prop} {cv : Value} (hr : RV (Kd.int .i64) w ok cv xs) (hn : newOk i t xs = true) :
    Calls Try.prog 8 #[.int .u64 i, .int .u64 t, cv] w fun e w' => ∃ g, e = .returned (.tuple #[.pointer (some ⟨g, 0, none⟩), .int .i64 0]) ∧ w.heap.size ≤ g ∧ IsL 70 g w' (fun k => w.heap.size ≤ k) (.slice none 0 0) ⟨i, t, xs, []⟩ ∧ Below w.heap.size w w' := by
  have HR := Lib.hid hr
  obtain ⟨A, c, rfl, _, _⟩ := hr
  simp only [newOk, Bool.and_eq_true, decide_eq_true_eq] at hn
  obtain ⟨h1, h2, h3, hc⟩ := hn
  have hl := (confB_len hc).2
  have h1' : ¬ 281474976710656 < i := by omega
  have h2' : ¬ 281474976710656 < t := by omega
  go_enter Try.func8, Try.ntmps8
  go_wp2_with fail
  refine (member_calls xs HR.out).mono ?_
  rintro e w1 ⟨rfl, hb⟩
  rw [hc]
  have HB := Lib.hid hb
  clear hb
  go_wp2_with fail
  refine (clone_int A c xs _ (RV_C (RV_below HR.out HB.out)) (by omega)).mono ?_
  rintro e w2 ⟨v, rfl, hv, hb⟩
  have HB2 := Lib.hid (below_then HB.out HB.out.size hb)
  have HV := Lib.hid (G_mono hv (fun k hk => Nat.le_trans HB.out.size hk))
  obtain ⟨Av, cv, rfl, _⟩ := G_slice hv
  clear hv hb
  go_wp2
  go_ret2
  refine ⟨_, rfl, HB2.out.size, ⟨⟨.slice Av xs.length cv, blk_new w2 _, ?_⟩, G_nil _ _ _ _⟩, below_alloc HB2.out _⟩
  exact RV_mono (RV_of_G (G_alloc (G_bound HV.out) _)) (fun k hk => ⟨hk.1, by have := hk.2; omega, by simp [Value.ownBlock]⟩)
end Go.Proofs.Ytpnmodkddiljeaa
