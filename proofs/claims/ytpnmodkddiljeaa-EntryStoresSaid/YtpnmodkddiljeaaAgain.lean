/- What a Store that is answered leaves, and what it comes to when it comes again. No walk. -/
import Derived.Test.YtpnmodkddiljeaaLight
namespace Go.Proofs.Ytpnmodkddiljeaa
open Go.RowKit Go.Proofs.YtpnmodkddiljeaaW.PrintWords PEntryPlays Go.Shelf

theorem slice_all {st : LS} (h : LSok st) : st.slice (st.index + 1) 4096 = (st.l, 0) := by
  unfold LS.slice
  rw [if_neg (by omega), if_neg (by omega), show st.index + 1 - st.index - 1 = ((0 : Nat) : Int) by omega, Int.toNat_natCast, List.drop_zero, List.take_of_length_le (by have := h.len; exact this)]

theorem store_none {st : LS} {i t : Int} {es : List S31} (h : (st.store i t es).e ≠ 0 ∨ (st.store i t es).at_ = 0) (hok : LSok st) (hi : 0 ≤ i) : (st.store i t es).at_ = 0 ∧ (st.store i t es).put = [] ∧ (st.store i t es).st = st := by
  revert h
  unfold LS.store
  split
  · exact fun _ => ⟨rfl, rfl, rfl⟩
  rename_i h1
  split
  · exact fun _ => ⟨rfl, rfl, rfl⟩
  rename_i h2
  split
  · exact fun _ => ⟨rfl, rfl, rfl⟩
  rename_i e es' hd
  split
  · exact fun _ => ⟨rfl, rfl, rfl⟩
  · intro h
    exfalso
    have hm : mayES i t es = true := by simpa using h1
    obtain ⟨k, n, hdk, hk, hsk, hne, hn, hnl, hat, hmay⟩ := store_spec hok hi hm (fun h => h2 (.inl h)) hd
    have := (mayE_f0 (hmay e (by simp))).1
    rcases h with h | h
    · exact h rfl
    · simp only at h
      omega

theorem dropWhile_all {α : Type} {p : α → Bool} : ∀ {l : List α}, (∀ x, x ∈ l → p x = true) → l.dropWhile p = []
  | [], _ => rfl
  | x :: l, h => by rw [List.dropWhile_cons_of_pos (h x (by simp))]; exact dropWhile_all (fun y hy => h y (by simp [hy]))

/-- All that is known of a Store that stored. -/
structure Done (st : LS) (i t : Int) (es : List S31) (st' : LS) (at_ : Int) (put : List S31) (k n : Nat) : Prop where
  mays : mayES i t es = true
  ne5 : (st.termAt i).2 ≠ 5
  term0 : (st.termAt i).2 = 0 → (st.termAt i).1 = t
  drop : es.drop k = put
  klt : k < es.length
  skips : ∀ j (hj : j < es.length), j < k → st.skip es[j] = true
  at_eq : at_ = st.index + n + 1
  nle : n ≤ st.l.length
  st_eq : st' = { st with l := st.l.take n ++ put }
  f0 : ∀ j (hj : j < es.length), es[j].f0 = st.index + n + 1 + j - k
theorem store_done {st : LS} {i t : Int} {es : List S31} (h : ¬ ((st.store i t es).e ≠ 0 ∨ (st.store i t es).at_ = 0)) (hok : LSok st) (hi : 0 ≤ i) :
    ∃ k n, Done st i t es (st.store i t es).st (st.store i t es).at_ (st.store i t es).put k n := by
  revert h
  unfold LS.store
  split
  · intro h; exact absurd (.inl (show (2 : Int) ≠ 0 by decide)) h
  rename_i h1
  split
  · intro h; exact absurd (.inl (show (261 : Int) ≠ 0 by decide)) h
  rename_i h2
  split
  · intro h; exact absurd (.inr rfl) h
  rename_i e es' hd
  split
  · intro h; exact absurd (.inl (show (6 : Int) ≠ 0 by decide)) h
  · intro h
    have hm : mayES i t es = true := by simpa using h1
    obtain ⟨k, n, hdk, hk, hsk, hne, hn, hnl, hat, hmay⟩ := store_spec hok hi hm (fun h => h2 (.inl h)) hd
    have hek : es[k] = e := by
      have := List.drop_eq_getElem_cons hk
      rw [hdk] at this
      injection this with h _
      exact h.symm
    refine ⟨k, n, hm, fun h => h2 (.inl h), fun h0 => Decidable.byContradiction fun h => h2 (.inr ⟨h0, h⟩), hdk, hk, hsk, ?_, hnl, ?_, fun j hj => ?_⟩
    · show e.f0 = _
      omega
    · show (⟨st.index, st.term, st.conf, st.l.take (e.f0 - st.index - 1).toNat ++ e :: es'⟩ : LS) = _
      rw [hn, Int.toNat_natCast]
    · have a := mayES_at hm j hj
      have b := mayES_at hm k hk
      rw [hek] at b
      omega
theorem Done.len {st st' : LS} {i t : Int} {es put : List S31} {at_ : Int} {k n : Nat} (h : Done st i t es st' at_ put k n) : st'.l.length = n + (es.length - k) ∧ put.length = es.length - k := by
  have hp : put.length = es.length - k := by rw [← h.drop, List.length_drop]
  have hn := h.nle
  rw [h.st_eq]
  simp only [List.length_append, List.length_take]
  omega
theorem Done.low {st st' : LS} {i t : Int} {es put : List S31} {at_ : Int} {k n : Nat} (h : Done st i t es st' at_ put k n) (j : Nat) (hj : j < n) (h1 : j < st'.l.length) (h2 : j < st.l.length) : st'.l[j] = st.l[j] := by
  have hs : st'.l = st.l.take n ++ put := by rw [h.st_eq]
  simp only [hs]
  rw [List.getElem_append_left (by rw [List.length_take]; omega), List.getElem_take]
theorem Done.high {st st' : LS} {i t : Int} {es put : List S31} {at_ : Int} {k n : Nat} (h : Done st i t es st' at_ put k n) (j : Nat) (hj : k ≤ j) (h1 : j < es.length) (h2 : n + (j - k) < st'.l.length) : st'.l[n + (j - k)] = es[j] := by
  have hn := h.nle
  have hs : st'.l = st.l.take n ++ put := by rw [h.st_eq]
  have htl : (st.l.take n).length = n := by rw [List.length_take]; omega
  simp only [hs]
  rw [List.getElem_append_right (by omega)]
  simp only [← h.drop, List.getElem_drop]
  congr 1
  omega
theorem Done.at {st st' : LS} {i t : Int} {es put : List S31} {at_ : Int} {k n : Nat} (h : Done st i t es st' at_ put k n) (hok : LSok st) (j : Nat) (hj : j < es.length) (hb : st.index < es[j].f0) :
    ∃ p : Nat, es[j].f0 - st.index - 1 = p ∧ ∃ hp : p < st'.l.length, st'.l[p].f1 = es[j].f1 ∧ (at_ ≤ es[j].f0 → st'.l[p] = es[j]) := by
  have hf := h.f0 j hj
  obtain ⟨hl, _⟩ := h.len
  have hk := h.klt
  have hn := h.nle
  have hae := h.at_eq
  by_cases hjk : k ≤ j
  · refine ⟨n + (j - k), by omega, by omega, ?_, fun _ => h.high j hjk hj (by omega)⟩
    rw [h.high j hjk hj (by omega)]
  · have hsk := h.skips j hj (by omega)
    obtain ⟨p, hp⟩ : ∃ p : Nat, es[j].f0 - st.index - 1 = p := ⟨(es[j].f0 - st.index - 1).toNat, by omega⟩
    have hpn : p < n := by omega
    refine ⟨p, hp, by omega, ?_, fun hh => by omega⟩
    rw [h.low p hpn (by omega) (by omega)]
    simp only [LS.skip, Bool.or_eq_true, decide_eq_true_eq, LS.fits, Bool.and_eq_true] at hsk
    rcases hsk with hsk | ⟨h0, h1⟩
    · omega
    · unfold LS.termAt at h0 h1
      rw [hok.last1] at h0 h1
      rw [if_neg (by omega), if_neg (by omega), if_neg (by omega)] at h1
      rw [hp, Int.toNat_natCast, List.getD_eq_getElem?_getD, List.getElem?_eq_getElem (by omega), Option.getD_some] at h1
      exact h1
theorem Done.index {st st' : LS} {i t : Int} {es put : List S31} {at_ : Int} {k n : Nat} (h : Done st i t es st' at_ put k n) : st'.index = st.index ∧ st'.term = st.term := by rw [h.st_eq]; exact ⟨rfl, rfl⟩
theorem Done.term {st st' : LS} {i t : Int} {es put : List S31} {at_ : Int} {k n : Nat} (h : Done st i t es st' at_ put k n) (hok : LSok st) (hok' : LSok st') (x : Int) (hx : x ≤ st.index + n) : st'.termAt x = st.termAt x := by
  obtain ⟨hl, _⟩ := h.len
  have hn := h.nle
  have hk := h.klt
  unfold LS.termAt
  rw [hok.last1, hok'.last1, h.index.1, h.index.2]
  by_cases h1 : x < st.index
  · rw [if_pos h1, if_pos h1]
  rw [if_neg h1, if_neg h1, if_neg (show ¬ st.index + (st'.l.length : Int) < x by omega), if_neg (show ¬ st.index + (st.l.length : Int) < x by omega)]
  by_cases h2 : x = st.index
  · rw [if_pos h2, if_pos h2]
  rw [if_neg h2, if_neg h2]
  obtain ⟨p, hp⟩ : ∃ p : Nat, x - st.index - 1 = p := ⟨(x - st.index - 1).toNat, by omega⟩
  rw [hp, Int.toNat_natCast, List.getD_eq_getElem?_getD, List.getD_eq_getElem?_getD, List.getElem?_eq_getElem (show p < st.l.length by omega), List.getElem?_eq_getElem (show p < st'.l.length by omega), h.low p (by omega) (by omega) (by omega)]
theorem Done.again {st st' : LS} {i t : Int} {es put : List S31} {at_ : Int} {k n : Nat} (h : Done st i t es st' at_ put k n) (hok : LSok st) (hok' : LSok st') (hi : 0 ≤ i) : st'.store i t es = ⟨st', 0, [], 0⟩ := by
  have hlt := termAt_lt hok h.ne5
  have hi1 := hok.i1
  have hlen := hok.len
  have hk := h.klt
  have hw : IntKind.u64.wrap (i + 1) = i + 1 := IntWalk.u64_in _ (by omega)
  have h0 := mayES_at h.mays 0 (by omega)
  have hf0 := h.f0 0 (by omega)
  rw [hw] at h0
  have hi2 : i ≤ st.index + n := by omega
  have ht := h.term hok hok' i hi2
  obtain ⟨hl, _⟩ := h.len
  have hd : es.dropWhile st'.skip = [] := by
    refine dropWhile_all (fun e he => ?_)
    obtain ⟨j, hj, rfl⟩ := List.getElem_of_mem he
    simp only [LS.skip, Bool.or_eq_true, decide_eq_true_eq, LS.fits, Bool.and_eq_true]
    by_cases hb : es[j].f0 ≤ st'.index
    · exact .inl hb
    · refine .inr ?_
      rw [h.index.1] at hb
      obtain ⟨p, hp, hpl, hp1, _⟩ := h.at hok j hj (by omega)
      unfold LS.termAt
      rw [hok'.last1, h.index.1, if_neg (by omega), if_neg (by omega), if_neg (by omega), hp, Int.toNat_natCast, List.getD_eq_getElem?_getD, List.getElem?_eq_getElem hpl, Option.getD_some]
      exact ⟨rfl, hp1⟩
  unfold LS.store
  rw [if_neg (by rw [h.mays]; simp), ht, if_neg ?_, hd]
  rintro (h5 | ⟨h5, h6⟩)
  · exact h.ne5 h5
  · exact h6 (h.term0 h5)
theorem Done.last {st st' : LS} {i t : Int} {es put : List S31} {at_ : Int} {k n : Nat} (h : Done st i t es st' at_ put k n) (hok' : LSok st') (hlt : es.length - 1 < es.length) : st'.last.1 = es[es.length - 1].f0 := by
  have hk := h.klt
  obtain ⟨hl, _⟩ := h.len
  rw [hok'.last1, h.index.1, h.f0 (es.length - 1) hlt]
  omega
end Go.Proofs.Ytpnmodkddiljeaa
