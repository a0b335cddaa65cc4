/- What a log answers behind a compaction, against what it answered before. No walk. -/
import Derived.Test.YtpnmodkddiljeaaLight
namespace Go.Proofs.Ytpnmodkddiljeaa
open Go.RowKit Go.Proofs.YtpnmodkddiljeaaW.PrintWords PEntryPlays Go.Shelf

theorem bk_reverse (l : List S31) : bk (fun j => l.getD j z31) l.length l.length = l.reverse := by
  apply List.ext_getElem
  · simp [bk]
  · intro i h1 h2
    simp only [bk, List.length_map, List.length_range] at h1
    simp only [bk, List.getElem_map, List.getElem_range, List.getElem_reverse, List.getD_eq_getElem?_getD]
    rw [List.getElem?_eq_getElem (by omega), Option.getD_some]
theorem back_eq (st : LS) (x : Int) : st.back x = (st.l.filter (fun e => decide (e.f0 ≤ x))).reverse := by
  unfold LS.back
  rw [bk_reverse, List.filter_reverse]

/-- The log behind a compaction at c. -/
def LS.cut (st : LS) (c : Int) : LS := ⟨c, (st.termAt c).1, (st.says c).1, st.l.drop (c - st.index).toNat⟩
theorem compact_cut {st : LS} {c : Int} (h : (st.termAt c).2 = 0) : st.compact c = (st.cut c, 0) := by
  unfold LS.compact
  rw [if_pos h]
  rfl
theorem filter_low {st : LS} (hok : LSok st) {c x : Int} (h2 : c ≤ st.index + st.l.length) (hx : c ≤ x) :
    st.l.filter (fun e => decide (e.f0 ≤ x)) = st.l.take (c - st.index).toNat ++ (st.l.drop (c - st.index).toNat).filter (fun e => decide (e.f0 ≤ x)) := by
  have hl : (st.l.take (c - st.index).toNat).filter (fun e => decide (e.f0 ≤ x)) = st.l.take (c - st.index).toNat := by
    rw [List.filter_eq_self]
    intro e he
    obtain ⟨j, hj, rfl⟩ := List.getElem_of_mem he
    rw [List.length_take] at hj
    rw [List.getElem_take, hok.seq j (by omega)]
    simp
    omega
  conv => lhs; rw [← List.take_append_drop (c - st.index).toNat st.l, List.filter_append, hl]
theorem filter_none {st : LS} (hok : LSok st) {c : Int} (h1 : st.index ≤ c) (h2 : c ≤ st.index + st.l.length) : (st.l.drop (c - st.index).toNat).filter (fun e => decide (e.f0 ≤ c)) = [] := by
  rw [List.filter_eq_nil_iff]
  intro e he
  obtain ⟨j, hj, rfl⟩ := List.getElem_of_mem he
  rw [List.length_drop] at hj
  rw [List.getElem_drop, hok.seq _ (by omega)]
  simp
  omega
theorem back_cut {st : LS} (hok : LSok st) {c x : Int} (h1 : st.index ≤ c) (h2 : c ≤ st.index + st.l.length) (hx : c ≤ x) : st.back x = (st.cut c).back x ++ st.back c := by
  rw [back_eq, back_eq, back_eq, filter_low hok h2 hx, filter_low hok h2 (Int.le_refl c), filter_none hok h1 h2, List.append_nil, List.reverse_append]
  rfl
theorem back_gt {st : LS} (hok : LSok st) {c x : Int} (h1 : st.index ≤ c) (h2 : c ≤ st.index + st.l.length) : ∀ e, e ∈ (st.cut c).back x → c < e.f0 := by
  intro e he
  rw [back_eq] at he
  obtain ⟨he, _⟩ := List.mem_filter.1 (List.mem_reverse.1 he)
  have he' : e ∈ st.l.drop (c - st.index).toNat := he
  obtain ⟨j, hj, rfl⟩ := List.getElem_of_mem he'
  rw [List.length_drop] at hj
  rw [List.getElem_drop, hok.seq _ (by omega)]
  omega
theorem back_le {st : LS} (c : Int) : ∀ e, e ∈ st.back c → e.f0 ≤ c := by
  intro e he
  rw [back_eq] at he
  have := (List.mem_filter.1 (List.mem_reverse.1 he)).2
  simpa using this
/-- What says the conf, before and behind. -/
theorem says_cut {st : LS} (hok : LSok st) {c x : Int} (h1 : st.index ≤ c) (h2 : c ≤ st.index + st.l.length) (hx : c ≤ x) :
    ((st.cut c).says x).1 = (st.says x).1 ∧ ((st.cut c).says x).2 = max (st.says x).2 c := by
  have hb := back_cut hok h1 h2 hx
  have hs : (st.says c).2 ≤ c := by
    unfold LS.says
    split
    · rename_i e he
      exact back_le c e (List.mem_of_find?_eq_some he)
    · exact h1
  unfold LS.says at hs ⊢
  rw [hb, List.find?_append]
  cases hf : ((st.cut c).back x).find? (fun e => decide (e.f2 = 3)) with
  | some e =>
    have := back_gt (x := x) hok h1 h2 e (List.mem_of_find?_eq_some hf)
    simp only [Option.some_or]
    exact ⟨trivial, by omega⟩
  | none =>
    simp only [Option.none_or]
    refine ⟨?_, ?_⟩
    · show (st.says c).1 = _
      rfl
    · show c = _
      omega
theorem cut_ok {st : LS} (hok : LSok st) {c : Int} (h : (st.termAt c).2 = 0) : LSok (st.cut c) := by
  have := hok.compact c
  rw [compact_cut h] at this
  exact this
theorem cut_last {st : LS} (hok : LSok st) {c : Int} (h : (st.termAt c).2 = 0) : (st.cut c).last.1 = st.last.1 := by
  obtain ⟨h1, h2⟩ := termAt_in hok h
  rw [(cut_ok hok h).last1, hok.last1]
  show c + ((st.l.drop (c - st.index).toNat).length : Int) = _
  rw [List.length_drop]
  omega
theorem term_cut {st : LS} (hok : LSok st) {c x : Int} (h : (st.termAt c).2 = 0) (hx : c ≤ x) : (st.cut c).termAt x = st.termAt x := by
  obtain ⟨h1, h2⟩ := termAt_in hok h
  by_cases hxc : x = c
  · subst hxc
    have hl := cut_last hok h
    have hb := (cut_ok hok h).last1
    unfold LS.termAt
    rw [if_neg (by show ¬ x < x; omega), if_neg (by rw [hl, hok.last1]; omega), if_pos (by rfl)]
    show ((st.termAt x).1, (0 : Int)) = st.termAt x
    rw [← h]
  · unfold LS.termAt
    rw [cut_last hok h, hok.last1, if_neg (show ¬ x < (st.cut c).index by show ¬ x < c; omega), if_neg (show ¬ x < st.index by omega)]
    by_cases h3 : st.index + (st.l.length : Int) < x
    · rw [if_pos h3, if_pos h3]
    · rw [if_neg h3, if_neg h3, if_neg (show ¬ x = (st.cut c).index from hxc), if_neg (by omega)]
      obtain ⟨p, hp⟩ : ∃ p : Nat, x - c - 1 = p := ⟨(x - c - 1).toNat, by omega⟩
      show (((st.l.drop (c - st.index).toNat).getD (x - c - 1).toNat z31).f1, (0 : Int)) = _
      rw [hp, Int.toNat_natCast, List.getD_eq_getElem?_getD, List.getD_eq_getElem?_getD, List.getElem?_drop, show (c - st.index).toNat + p = (x - st.index - 1).toNat by omega]
end Go.Proofs.Ytpnmodkddiljeaa
