/- EntryFull: the walk, and what the answers are. Conditions: the arguments lie in their types. -/
import Derived.Test.YtpnmodkddiljeaaWorks
namespace Go.Proofs.Ytpnmodkddiljeaa
open Go.RowKit Go.Proofs.YtpnmodkddiljeaaW.PrintWords Go.Proofs.YtpnmodkddiljeaaW.PrintLast PEntryPlays Go.Shelf

/-! ### What the answers are -/
def noops (b k : Nat) : List S31 := (List.range k).map (fun j => noopE ((b : Int) + (j : Nat) + 1) 1)
def stF (k : Nat) : LS := ⟨0, 0, [1, 2, 3], noops 0 k⟩
theorem noops_len (b k : Nat) : (noops b k).length = k := by simp [noops]
theorem noops_succ (b k : Nat) : noops b (k + 1) = noops b k ++ [noopE ((b : Int) + k + 1) 1] := by simp [noops, List.range_succ]
theorem noops_get (b k j : Nat) (h : j < (noops b k).length) : (noops b k)[j] = noopE ((b : Int) + j + 1) 1 := by simp [noops]
theorem noop_may {i : Int} (h1 : 1 ≤ i) (h2 : i ≤ 281474976710656) : mayE (noopE i 1) = true := by
  unfold mayE noopE
  rw [if_neg (by dsimp only; omega), if_neg (by dsimp only; omega), if_neg (by dsimp only; decide), if_neg (by dsimp only; decide), if_pos rfl]
  show decide ((⟨#[]⟩ : ByteArray).toList = [] ∧ ([] : List Int).length = 0) = true
  kernel_rfl
theorem stF_last (k : Nat) (hk : 0 < k) : (stF k).last = ((k : Int), 1) := by
  unfold LS.last stF
  simp only
  rw [List.getLast?_eq_getElem?, noops_len, List.getElem?_eq_getElem (by rw [noops_len]; omega), noops_get]
  simp [noopE]
  omega
theorem stF_append (k : Nat) (hk : k < 4096) : (stF k).append (noopE ((k : Int) + 1) 1) = (stF (k + 1), 0) := by
  have hl : (stF k).last.1 = k ∧ (stF k).last.2 ≤ 1 := by
    rcases Nat.eq_zero_or_pos k with h | h
    · subst h; decide
    · rw [stF_last k h]; simp
  unfold LS.append
  rw [if_neg (by rw [noop_may (by omega) (by omega)]; simp), if_neg ?_, if_neg (by show ¬ 4096 ≤ (noops 0 k).length; rw [noops_len]; omega)]
  · simp [stF, noops_succ]
  · rw [hl.1]
    rintro (h | h)
    · exact h (by show (k : Int) + 1 = _; exact (IntWalk.u64_in _ (by omega)).symm)
    · have : (noopE ((k : Int) + 1) 1).f1 = 1 := rfl
      omega
theorem noops_cons (b m : Nat) : noops b (m + 1) = noopE ((b : Int) + 1) 1 :: noops (b + 1) m := by
  simp only [noops, List.range_succ_eq_map, List.map_cons, List.map_map, List.cons.injEq]
  refine ⟨by simp, List.map_congr_left (fun j _ => ?_)⟩
  simp only [Function.comp, noopE, S31.mk.injEq, and_true]
  omega
theorem mayES_noops : ∀ (m b : Nat), b + m ≤ 8192 → mayES b 1 (noops b m) = true := by
  intro m
  induction m with
  | zero => intros; rfl
  | succ m ih =>
    intro b hb
    rw [noops_cons]
    simp only [mayES, Bool.and_eq_true, decide_eq_true_eq, Bool.not_eq_true', decide_eq_false_iff_not]
    refine ⟨⟨⟨noop_may (by omega) (by omega), by show (b : Int) + 1 = _; exact (IntWalk.u64_in _ (by omega)).symm⟩, by simp [noopE]⟩, ?_⟩
    have := ih (b + 1) (by omega)
    rw [show ((b + 1 : Nat) : Int) = (b : Int) + 1 by omega] at this
    exact this

/-- The log of 4096 noops, compacted at c (0: not at all). -/
def stC (c : Nat) : LS := ⟨c, if c = 0 then 0 else 1, [1, 2, 3], (noops 0 4096).drop c⟩
theorem stC_zero (k : Nat) (hk : k = 4096) : stF k = stC 0 := by
  subst hk
  unfold stC stF
  rw [List.drop_zero, if_pos rfl]
  exact congrArg (fun i : Int => LS.mk i 0 [1, 2, 3] (noops 0 4096)) (by decide)
theorem stC_len (c : Nat) : (stC c).l.length = 4096 - c := by show ((noops 0 4096).drop c).length = _; rw [List.length_drop, noops_len]
theorem stC_index (c : Nat) : (stC c).index = c := rfl
theorem stC_get (c j : Nat) (h : j < 4096 - c) : (stC c).l[j]? = some (noopE (((c + j : Nat) : Int) + 1) 1) := by
  show ((noops 0 4096).drop c)[j]? = _
  rw [List.getElem?_drop, List.getElem?_eq_getElem (by rw [noops_len]; omega), noops_get]
  simp
theorem stC_last (c : Nat) (hc : c ≤ 4096) : (stC c).last = (4096, 1) := by
  unfold LS.last
  rw [List.getLast?_eq_getElem?, stC_len]
  rcases Nat.lt_or_ge c 4096 with h | h
  · rw [stC_get c _ (by omega)]
    show ((((c + (4096 - c - 1) : Nat) : Int) + 1), (1 : Int)) = _
    rw [Prod.mk.injEq]
    exact ⟨by omega, rfl⟩
  · obtain rfl : c = 4096 := by omega
    rw [List.getElem?_eq_none (by rw [stC_len]; omega)]
    rfl
theorem stC_term (c : Nat) (hc : c ≤ 4096) : (stC c).termAt 4096 = (1, 0) := by
  unfold LS.termAt
  rw [stC_last c hc, stC_index]
  simp only
  rw [if_neg (by omega), if_neg (by omega)]
  split
  · rename_i h
    show ((if c = 0 then (0 : Int) else 1), (0 : Int)) = _
    rw [if_neg (by omega)]
  · rw [List.getD_eq_getElem?_getD, stC_get c _ (by omega)]
    rfl
theorem stC_skip (c : Nat) (hc : c ≤ 4096) : (stC c).skip (noopE (((4096 : Nat) : Int) + 1) 1) = false := by
  have h1 : ((stC c).termAt 4097).2 = 5 := by
    unfold LS.termAt
    rw [stC_last c hc, stC_index]
    simp only
    rw [if_neg (by omega), if_pos (by omega)]
  unfold LS.skip LS.fits
  show (decide ((4097 : Int) ≤ (stC c).index) || (decide (((stC c).termAt 4097).2 = 0) && decide (((stC c).termAt 4097).1 = 1))) = false
  rw [h1, stC_index, decide_eq_false (show ¬ (4097 : Int) ≤ (c : Int) by omega)]
  rfl
theorem stC_store (c m : Nat) (hc : c ≤ 4096) (hm : m ≤ 49) : (stC c).store 4096 1 (noops 4096 (m + 1)) =
    if c < m + 1 then ⟨stC c, 0, [], 6⟩ else ⟨{ stC c with l := (stC c).l ++ noops 4096 (m + 1) }, 4097, noops 4096 (m + 1), 0⟩ := by
  unfold LS.store
  rw [if_neg (by rw [show (4096 : Int) = ((4096 : Nat) : Int) from rfl, mayES_noops (m + 1) 4096 (by omega)]; simp), stC_term c hc, if_neg (by simp)]
  rw [noops_cons, List.dropWhile_cons_of_neg (by rw [stC_skip c hc]; simp)]
  show (if (4096 : Int) < ((4097 : Int) - (stC c).index - 1) + (((noops (4096 + 1) m).length : Int) + 1) then (⟨stC c, 0, [], 6⟩ : Stored) else ⟨{ stC c with l := (stC c).l.take ((4097 : Int) - (stC c).index - 1).toNat ++ noopE (((4096 : Nat) : Int) + 1) 1 :: noops (4096 + 1) m }, 4097, noopE (((4096 : Nat) : Int) + 1) 1 :: noops (4096 + 1) m, 0⟩) = _
  have hn : (4097 : Int) - (stC c).index - 1 = ((4096 - c : Nat) : Int) := by rw [stC_index]; omega
  rw [hn, Int.toNat_natCast, noops_len]
  by_cases h : c < m + 1
  · rw [if_pos (by omega), if_pos h]
  · rw [if_neg (by omega), if_neg h, show (stC c).l.take (4096 - c) = (stC c).l from by rw [← stC_len c]; exact List.take_length]
theorem stC_full (x : S31) (hx : mayE x = true) (h0 : x.f0 = 4097) (h1 : x.f1 = 1) : (stC 0).append x = (stC 0, 6) := by
  unfold LS.append
  have hl : 4096 ≤ (stC 0).l.length := by rw [stC_len]; omega
  rw [if_neg (by rw [hx]; simp), stC_last 0 (by omega), if_neg, if_pos hl]
  rintro (h | h)
  · exact h (by rw [h0]; exact (IntWalk.u64_in _ (by omega)).symm)
  · rw [h1] at h; dsimp only at h; omega
theorem stC_terms (c : Nat) (h1 : 1 ≤ c) (h2 : c ≤ 4096) : (stC 0).termAt c = (1, 0) := by
  unfold LS.termAt
  rw [stC_last 0 (by omega), stC_index]
  simp only
  rw [if_neg (by omega), if_neg (by omega), if_neg (by omega), List.getD_eq_getElem?_getD, stC_get 0 _ (by omega)]
  rfl
theorem stC_says (c : Int) : ((stC 0).says c).1 = [1, 2, 3] := by
  unfold LS.says
  rw [List.find?_eq_none.2 ?_]
  · rfl
  · intro e he
    obtain ⟨h3, _⟩ := List.mem_filter.1 he
    obtain ⟨k, hk, rfl⟩ := List.mem_map.1 h3
    have hl : ∀ j, ((stC 0).l.getD j z31).f2 ≠ 3 := by
      intro j
      rw [List.getD_eq_getElem?_getD]
      rcases Nat.lt_or_ge j 4096 with h | h
      · rw [stC_get 0 j (by omega), Option.getD_some]
        show (1 : Int) ≠ 3
        decide
      · rw [List.getElem?_eq_none (by rw [stC_len]; omega), Option.getD_none]
        decide
    simpa using hl _
theorem stC_compact (c : Nat) (h1 : 1 ≤ c) (h2 : c ≤ 4096) : (stC 0).compact c = (stC c, 0) := by
  unfold LS.compact
  rw [stC_terms c h1 h2, stC_says, if_pos rfl, stC_index, show ((c : Int) - ((0 : Nat) : Int)).toNat = c by omega]
  have hd : (stC 0).l.drop c = (stC c).l := by
    unfold stC
    simp only [List.drop_zero]
  rw [hd]
  have hst : (stC c) = ⟨(c : Int), 1, [1, 2, 3], (stC c).l⟩ := by
    show (⟨(c : Int), if c = 0 then 0 else 1, [1, 2, 3], (stC c).l⟩ : LS) = _
    rw [if_neg (by omega)]
  rw [← hst]
theorem stC_after (c m : Nat) (x : List S31) (hx : x = noops 4096 (m + 1)) : LS.last { stC c with l := (stC c).l ++ x } = (((4096 + (m + 1) : Nat) : Int), 1) := by
  subst hx
  unfold LS.last
  simp only
  rw [noops_succ, ← List.append_assoc, List.getLast?_concat]
  show ((((4096 : Nat) : Int) + (m : Nat) + 1), (1 : Int)) = _
  rw [Prod.mk.injEq]
  exact ⟨by omega, rfl⟩
end Go.Proofs.Ytpnmodkddiljeaa
