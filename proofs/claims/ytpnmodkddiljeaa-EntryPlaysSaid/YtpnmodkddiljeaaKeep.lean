/- Store, whole; the operations keep the log in order. No walk. -/
import Derived.Test.YtpnmodkddiljeaaStow
namespace Go.Proofs.Ytpnmodkddiljeaa
open Go.RowKit Go.Proofs.YtpnmodkddiljeaaW.PrintWords PEntryPlays Go.Shelf

theorem mayES_all : ∀ {es : List S31} {i t : Int}, mayES i t es = true → ∀ e, e ∈ es → mayE e = true
  | [], _, _, _, _, he => by cases he
  | x :: r, i, t, h, e, he => by
    simp only [mayES, Bool.and_eq_true] at h
    rcases List.mem_cons.1 he with rfl | he
    · exact h.1.1.1
    · exact mayES_all h.2 e he
theorem mayES_first {e : S31} {r : List S31} {i t : Int} (h : mayES i t (e :: r) = true) : e.f0 = IntKind.u64.wrap (i + 1) ∧ t ≤ e.f1 := by
  simp only [mayES, Bool.and_eq_true, decide_eq_true_eq, Bool.not_eq_true', decide_eq_false_iff_not] at h
  exact ⟨h.1.1.2, by omega⟩
theorem mayES_succ : ∀ {es : List S31} {i t : Int}, mayES i t es = true → ∀ j (h : j + 1 < es.length), es[j + 1].f0 = es[j].f0 + 1 ∧ es[j].f1 ≤ es[j + 1].f1
  | [], _, _, _, j, hj => by simp at hj
  | [_], _, _, _, j, hj => by simp at hj
  | x :: y :: r, i, t, h, j, hj => by
    have h2 : mayES x.f0 x.f1 (y :: r) = true := by simp only [mayES, Bool.and_eq_true] at h ⊢; exact h.2
    cases j with
    | zero =>
      have hx := mayE_f0 (mayES_all h x (by simp))
      obtain ⟨h3, h4⟩ := mayES_first h2
      refine ⟨?_, by simpa using h4⟩
      simp only [List.getElem_cons_succ, List.getElem_cons_zero, Nat.zero_add]
      rw [h3]
      exact IntWalk.u64_in _ (by omega)
    | succ j =>
      have := mayES_succ h2 j (by simp at hj ⊢; omega)
      simpa using this
theorem mayES_at {es : List S31} {i t : Int} (h : mayES i t es = true) : ∀ j (hj : j < es.length), es[j].f0 = IntKind.u64.wrap (i + 1) + j := by
  intro j
  induction j with
  | zero =>
    intro hj
    cases es with
    | nil => simp at hj
    | cons x r => simpa using (mayES_first h).1
  | succ j ih =>
    intro hj
    have := (mayES_succ h j hj).1
    rw [this, ih (by omega)]
    omega
theorem mayES_drop {es : List S31} {i t : Int} (h : mayES i t es = true) : ∀ e, e ∈ es → 1 ≤ e.f0 ∧ e.f0 ≤ 281474976710656 := fun e he => ⟨(mayE_f0 (mayES_all h e he)).1, (mayE_f0 (mayES_all h e he)).2.1⟩

theorem termAt_lt {st : LS} (hok : LSok st) {i : Int} (h : (st.termAt i).2 ≠ 5) : i ≤ st.index + st.l.length := by
  have hl := hok.last1
  unfold LS.termAt at h
  split at h
  · omega
  split at h
  · simp at h
  · omega
theorem termAt_err (st : LS) (i : Int) : (st.termAt i).2 = 0 ∨ (st.termAt i).2 = 5 ∨ (st.termAt i).2 = 260 := by
  unfold LS.termAt
  split
  · simp
  split
  · simp
  split <;> simp

theorem store_bound {st : LS} (hok : LSok st) {i t : Int} (hi : 0 ≤ i) {es : List S31} (hm : mayES i t es = true) (h5 : (st.termAt i).2 ≠ 5) (j : Nat) (hj : j < es.length) (hs : ∀ j' (hj' : j' < es.length), j' < j → st.skip es[j'] = true) (hx : st.index < es[j].f0) :
    ∃ n : Nat, es[j].f0 - st.index - 1 = n ∧ n ≤ st.l.length := by
  have h1 := termAt_lt hok h5
  have hi0 := hok.i0
  have hi1 := hok.i1
  have hlen := hok.len
  have hat := mayES_at hm j hj
  have hw : IntKind.u64.wrap (i + 1) = i + 1 := IntWalk.u64_in _ (by omega)
  rw [hw] at hat
  have hle : es[j].f0 ≤ st.index + st.l.length + 1 := by
    cases j with
    | zero => omega
    | succ j =>
      have h2 := hs j (by omega) (by omega)
      have h3 := (mayES_succ hm j hj).1
      simp only [LS.skip, Bool.or_eq_true, decide_eq_true_eq, LS.fits, Bool.and_eq_true] at h2
      rcases h2 with h2 | ⟨h2, _⟩
      · omega
      · have := termAt_lt hok (i := es[j].f0) (by rw [h2]; omega)
        omega
  exact ⟨(es[j].f0 - st.index - 1).toNat, by omega, by omega⟩

theorem store_any {g : Nat} {w : World} {ok oke : Nat → Prop} {lv ve : Value} {st : LS} (h : IsL 70 g w ok lv st) (hok : LSok st) (i t : Int) (hi : 0 ≤ i) (es : List S31) (he : G k31 31 w oke ve es) (hg : ¬ oke g) (hl : es.length ≤ 4096) (h7 : ∀ e, e ∈ es → e.f4.length ≤ 4096) :
    Calls Try.prog 11 #[.pointer (some ⟨g, 0, none⟩), .int .u64 i, .int .u64 t, ve] w fun e w' => ∃ v, e = .returned (.tuple #[.int .u64 (st.store i t es).at_, v, .int .i64 (st.store i t es).e]) ∧
      Left 70 g w ok lv (st.store i t es).st w' ∧ G k31 31 w' (fun k => w.heap.size ≤ k ∧ k ≠ g) v (st.store i t es).put := by
  have herr := termAt_err st i
  unfold LS.store
  by_cases hm : mayES i t es = false
  · rw [if_pos hm]
    exact (store_may h hok i t es he hl h7 hm (by rcases herr with h | h | h <;> rw [h] <;> omega)).mono fun e w' ⟨a, b⟩ => ⟨_, a, h.left b, G_nil _ _ _ _⟩
  rw [if_neg hm]
  have hm' : mayES i t es = true := by simpa using hm
  by_cases hb : (st.termAt i).2 = 5 ∨ ((st.termAt i).2 = 0 ∧ (st.termAt i).1 ≠ t)
  · rw [if_pos hb]
    exact (store_clash h hok i t es he hl h7 hm' hb).mono fun e w' ⟨a, b⟩ => ⟨_, a, h.left b, G_nil _ _ _ _⟩
  rw [if_neg hb]
  have h5 : (st.termAt i).2 ≠ 5 := fun h => hb (.inl h)
  exact store_main h hok i t es he hg hl h7 hm' (by rcases herr with h | h | h <;> rw [h] <;> rfl) (by simpa using h5) (fun h0 => Decidable.byContradiction fun h => hb (.inr ⟨h0, h⟩)) (fun j hj hs hx => store_bound hok hi hm' h5 j hj hs hx)

/-! ### The log stays in order -/
theorem LSok.append {st : LS} (h : LSok st) (x : S31) : LSok (st.append x).1 := by
  unfold LS.append
  split
  · exact h
  rename_i h1
  split
  · exact h
  rename_i h2
  split
  · exact h
  rename_i h3
  have hm : mayE x = true := by simpa using h1
  have hi0 := h.i0
  have hi1 := h.i1
  have hx : x.f0 = st.index + st.l.length + 1 := by
    have : x.f0 = IntKind.u64.wrap (st.last.1 + 1) := Decidable.byContradiction fun hn => h2 (.inl hn)
    rw [this, h.last1]
    exact IntWalk.u64_in _ (by omega)
  refine ⟨h.i0, h.i1, h.conf, by simp; omega, fun j hj => ?_, fun e he => ?_⟩
  · simp only [List.getElem_append]
    split
    · exact h.seq _ _
    · simp only [List.getElem_singleton]
      simp at hj
      omega
  · rcases List.mem_append.1 he with he | he
    · exact h.may e he
    · rw [List.mem_singleton.1 he]; exact hm

/-- Where a dropWhile stops. -/
theorem dropWhile_spec {α : Type} {p : α → Bool} : ∀ {l : List α} {e : α} {r : List α}, l.dropWhile p = e :: r → ∃ k, ∃ hk : k < l.length, l[k] = e ∧ r = l.drop (k + 1) ∧ p e = false ∧ ∀ j (hj : j < l.length), j < k → p l[j] = true
  | [], e, r, h => by simp at h
  | x :: l, e, r, h => by
    by_cases hx : p x = true
    · rw [List.dropWhile_cons_of_pos hx] at h
      obtain ⟨k, hk, h1, h2, h3, h4⟩ := dropWhile_spec h
      refine ⟨k + 1, by simp; omega, by simpa using h1, by simpa using h2, h3, fun j hj hjk => ?_⟩
      cases j with
      | zero => simpa using hx
      | succ j => simpa using h4 j (by simpa using hj) (by omega)
    · rw [List.dropWhile_cons_of_neg hx] at h
      injection h with h1 h2
      subst h1 h2
      exact ⟨0, by simp, rfl, rfl, by simpa using hx, fun j _ hj => absurd hj (Nat.not_lt_zero _)⟩

/-- What is known where entries are stored. -/
theorem store_spec {st : LS} (h : LSok st) {i t : Int} (hi : 0 ≤ i) {es : List S31} (hm : mayES i t es = true) (h5 : (st.termAt i).2 ≠ 5) {e : S31} {es' : List S31} (hd : es.dropWhile st.skip = e :: es') :
    ∃ k n : Nat, es.drop k = e :: es' ∧ k < es.length ∧ (∀ j (hj : j < es.length), j < k → st.skip es[j] = true) ∧ st.skip e = false ∧ e.f0 - st.index - 1 = n ∧ n ≤ st.l.length ∧ (∀ j (hj : j < (e :: es').length), (e :: es')[j].f0 = st.index + n + 1 + j) ∧ ∀ x, x ∈ e :: es' → mayE x = true := by
  obtain ⟨k, hk, h1, h2, h3, h4⟩ := dropWhile_spec hd
  have hdk : es.drop k = e :: es' := by rw [List.drop_eq_getElem_cons hk, h1, h2]
  have hx : st.index < es[k].f0 := by
    rw [h1]
    simp only [LS.skip, Bool.or_eq_false_iff, decide_eq_false_iff_not] at h3
    omega
  obtain ⟨n, hn, hnl⟩ := store_bound h hi hm h5 k hk h4 hx
  rw [h1] at hn
  refine ⟨k, n, hdk, hk, h4, h3, hn, hnl, fun j hj => ?_, fun x hx => mayES_all hm x (List.mem_of_mem_drop (hdk ▸ hx))⟩
  have hj' : k + j < es.length := by have := congrArg List.length hdk; rw [List.length_drop] at this; omega
  have h6 : (e :: es')[j] = es[k + j] := by simp only [← hdk, List.getElem_drop]
  have h7 := mayES_at hm (k + j) hj'
  have h8 := mayES_at hm k hk
  rw [h1] at h8
  rw [h6, h7]
  omega

theorem LSok.store {st : LS} (h : LSok st) {i t : Int} (hi : 0 ≤ i) (es : List S31) : LSok (st.store i t es).st := by
  unfold LS.store
  split
  · exact h
  rename_i h1
  split
  · exact h
  rename_i h2
  have hm : mayES i t es = true := by simpa using h1
  have h5 : (st.termAt i).2 ≠ 5 := fun h => h2 (.inl h)
  split
  · exact h
  rename_i e es' hd
  split
  · exact h
  rename_i h3
  obtain ⟨k, n, hdk, hk, hsk, hne, hn, hnl, hat, hmay⟩ := store_spec h hi hm h5 hd
  rw [hn, Int.toNat_natCast]
  rw [hn] at h3
  have htl : (st.l.take n).length = n := by rw [List.length_take]; omega
  refine ⟨h.i0, h.i1, h.conf, by simp; omega, fun j hj => ?_, fun x hx => ?_⟩
  · simp only at hj ⊢
    by_cases hjn : j < n
    · rw [List.getElem_append_left (by omega), List.getElem_take]
      exact h.seq j (by omega)
    · rw [List.getElem_append_right (by omega), hat (j - (st.l.take n).length) (by rw [List.length_append] at hj; omega)]
      omega
  · rcases List.mem_append.1 hx with hx | hx
    · exact h.may x (List.mem_of_mem_take hx)
    · exact hmay x hx

theorem mayE_three {e : S31} (h : mayE e = true) (h3 : e.f2 = 3) : confB e.f4 = true := by
  unfold mayE at h
  rw [h3] at h
  by_cases h1 : e.f0 < 1
  · simp [h1] at h
  by_cases h2 : e.f0 > 281474976710656
  · simp [h1, h2] at h
  by_cases h4 : e.f1 < 1
  · simp [h1, h2, h4] at h
  by_cases h5 : e.f1 > 281474976710656
  · simp [h1, h2, h4, h5] at h
  rw [if_neg h1, if_neg h2, if_neg h4, if_neg h5, if_neg (by omega), if_neg (by omega), if_pos rfl] at h
  simp only [Bool.and_eq_true] at h
  exact h.2
theorem says_conf {st : LS} (h : LSok st) (i : Int) : confB (st.says i).1 = true := by
  unfold LS.says
  split
  · rename_i e he
    have h1 := List.find?_some he
    have h2 := List.mem_of_find?_eq_some he
    have h3 := (List.mem_filter.1 h2).1
    obtain ⟨k, hk, rfl⟩ := List.mem_map.1 h3
    have hk := List.mem_range.1 hk
    have hm : mayE (st.l.getD (st.l.length - 1 - k) z31) = true := by
      rw [List.getD_eq_getElem?_getD, List.getElem?_eq_getElem (by omega), Option.getD_some]
      exact h.may _ (List.getElem_mem _)
    exact mayE_three hm (by simpa using h1)
  · exact h.conf

theorem LSok.last_le {st : LS} (h : LSok st) : st.index + st.l.length ≤ 281474976710656 := by
  have hi1 := h.i1
  rcases Nat.eq_zero_or_pos st.l.length with h0 | h0
  · omega
  · have h1 := h.seq (st.l.length - 1) (by omega)
    have h2 := (mayE_f0 (h.may st.l[st.l.length - 1] (List.getElem_mem _))).2.1
    omega

theorem LSok.compact {st : LS} (h : LSok st) (i : Int) : LSok (st.compact i).1 := by
  unfold LS.compact
  split
  · rename_i h0
    obtain ⟨h1, h2⟩ := termAt_in h h0
    have h3 := h.last_le
    have hi0 := h.i0
    have hlen := h.len
    refine ⟨by show (0 : Int) ≤ i; omega, by show i ≤ _; omega, says_conf h i, by show (st.l.drop _).length ≤ _; rw [List.length_drop]; omega, fun j hj => ?_, fun x hx => h.may x (List.mem_of_mem_drop hx)⟩
    have hj' : j < (st.l.drop (i - st.index).toNat).length := hj
    rw [List.length_drop] at hj'
    show (st.l.drop (i - st.index).toNat)[j].f0 = i + j + 1
    rw [List.getElem_drop, h.seq _ (by omega)]
    omega
  · exact h
end Go.Proofs.Ytpnmodkddiljeaa
