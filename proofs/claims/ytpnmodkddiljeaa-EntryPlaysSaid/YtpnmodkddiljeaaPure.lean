/- The plain log: what each call answers and leaves, over lists. No program in sight but the printed readers' own plain functions. No conditions. -/
import Derived.Test.YtpnmodkddiljeaaLog
namespace Go.Proofs.Ytpnmodkddiljeaa
open Go.RowKit Go.Proofs.YtpnmodkddiljeaaW.PrintWords PEntryPlays

/-- may a conf be? From place i on. -/
def confFrom (l : List Int) (i : Nat) : Bool :=
  if h : i < l.length then
    if l[i] < 1 then false else if l[i] > 64 then false else if 0 < i ∧ l[i] ≤ l.getD (i - 1) 0 then false else confFrom l (i + 1)
  else decide (1 ≤ l.length ∧ l.length ≤ 7)
termination_by l.length - i
def confB (l : List Int) : Bool := confFrom l 0

def mayE (e : S31) : Bool :=
  if e.f0 < 1 then false else if e.f0 > 281474976710656 then false else if e.f1 < 1 then false else if e.f1 > 281474976710656 then false else
  if e.f2 = 1 then (decide (e.f3.toList = [] ∧ e.f4.length = 0)) else if e.f2 = 2 then decide (e.f3.size ≤ 8192 ∧ e.f4.length = 0) else if e.f2 = 3 then (decide (e.f3.toList = []) && confB e.f4) else false

def mayES : Int → Int → List S31 → Bool
  | _, _, [] => true
  | i, t, e :: r => mayE e && decide (e.f0 = IntKind.u64.wrap (i + 1)) && !decide (e.f1 < t) && mayES e.f0 e.f1 r

theorem confFrom_len {l : List Int} {i : Nat} (h : confFrom l i = true) : 1 ≤ l.length ∧ l.length ≤ 7 := by
  by_cases hi : i < l.length
  · rw [confFrom, dif_pos hi] at h
    split at h; · cases h
    split at h; · cases h
    split at h; · cases h
    exact confFrom_len h
  · rw [confFrom, dif_neg hi] at h
    simpa using h
termination_by l.length - i
theorem confB_len {l : List Int} (h : confB l = true) : 1 ≤ l.length ∧ l.length ≤ 7 := confFrom_len h

theorem wrap64_id {n : Int} (h0 : -9223372036854775808 ≤ n) (h1 : n ≤ 9223372036854775807) : wrap64 n = n := by unfold wrap64; omega

section
variable (l : List Int) (hl : l.length ≤ 9223372036854775807)
include hl
omit hl in
theorem rd_nat (i : Nat) (h : i < l.length) : rd l (i : Int) = l[i] := by simp [rd, h]
theorem confFrom_ref (d : Nat) : ∀ i, l.length - i = d → ∀ k, d < k → codicilref23_MayConf.l0 k l (i : Int) = some (confFrom l i) := by
  induction d with
  | zero =>
    intro i hd k hk
    obtain ⟨k, rfl⟩ : ∃ m, k = m + 1 := ⟨k - 1, by omega⟩
    simp only [codicilref23_MayConf.l0]
    rw [if_neg (by omega), confFrom, dif_neg (by omega)]
    by_cases h1 : (l.length : Int) ≥ 1
    · rw [if_pos h1]; congr 1; rw [decide_eq_decide]; omega
    · rw [if_neg h1]; congr 1; symm; rw [decide_eq_false_iff_not]; omega
  | succ d ih =>
    intro i hd k hk
    obtain ⟨k, rfl⟩ : ∃ m, k = m + 1 := ⟨k - 1, by omega⟩
    have hi : i < l.length := by omega
    simp only [codicilref23_MayConf.l0]
    rw [if_pos (by omega), if_pos (by omega), rd_nat l i hi, confFrom, dif_pos hi]
    by_cases h1 : l[i] < 1
    · rw [if_pos h1, if_pos h1]
    · rw [if_neg h1, if_neg h1]
      by_cases h2 : l[i] > 64
      · rw [if_pos h2, if_pos h2]
      · rw [if_neg h2, if_neg h2]
        have hw : wrap64 ((i : Int) + 1) = ((i + 1 : Nat) : Int) := by rw [wrap64_id (by omega) (by omega)]; omega
        by_cases h3 : 0 < i
        · have hw2 : wrap64 ((i : Int) - 1) = ((i - 1 : Nat) : Int) := by rw [wrap64_id (by omega) (by omega)]; omega
          rw [if_pos (by omega), hw2, if_pos (by omega), if_pos (by omega), rd_nat l (i - 1) (by omega), hw]
          have e1 : l.getD (i - 1) 0 = l[i - 1] := by simp [show i - 1 < l.length by omega]
          rw [e1]
          by_cases h4 : l[i] ≤ l[i - 1]
          · rw [if_pos h4, if_pos ⟨h3, h4⟩]
          · rw [if_neg h4, if_neg (fun h => h4 h.2)]
            exact ih (i + 1) (by omega) k (by omega)
        · rw [if_neg (by omega), if_neg (fun h => h3 h.1), hw]
          exact ih (i + 1) (by omega) k (by omega)
theorem confFrom_msg (d : Nat) : ∀ i, l.length - i = d → ∀ k, d < k → msg_mayConf.l0 k l l (l.length : Int) (i : Int) = some (confFrom l i) := by
  induction d with
  | zero =>
    intro i hd k hk
    obtain ⟨k, rfl⟩ : ∃ m, k = m + 1 := ⟨k - 1, by omega⟩
    simp only [msg_mayConf.l0]
    rw [if_neg (by omega), confFrom, dif_neg (by omega)]
    by_cases h1 : (l.length : Int) ≥ 1
    · rw [if_pos h1]; congr 1; rw [decide_eq_decide]; omega
    · rw [if_neg h1]; congr 1; symm; rw [decide_eq_false_iff_not]; omega
  | succ d ih =>
    intro i hd k hk
    obtain ⟨k, rfl⟩ : ∃ m, k = m + 1 := ⟨k - 1, by omega⟩
    have hi : i < l.length := by omega
    simp only [msg_mayConf.l0]
    rw [if_pos (by omega), if_pos (by omega), if_pos (by omega), rd_nat l i hi, confFrom, dif_pos hi]
    by_cases h1 : l[i] < 1
    · rw [if_pos h1, if_pos h1]
    · rw [if_neg h1, if_neg h1]
      by_cases h2 : l[i] > 64
      · rw [if_pos h2, if_pos h2]
      · rw [if_neg h2, if_neg h2]
        have hw : wrap64 ((i : Int) + 1) = ((i + 1 : Nat) : Int) := by rw [wrap64_id (by omega) (by omega)]; omega
        by_cases h3 : 0 < i
        · have hw2 : wrap64 ((i : Int) - 1) = ((i - 1 : Nat) : Int) := by rw [wrap64_id (by omega) (by omega)]; omega
          rw [if_pos (by omega), hw2, if_pos (by omega), if_pos (by omega), rd_nat l (i - 1) (by omega), hw]
          have e1 : l.getD (i - 1) 0 = l[i - 1] := by simp [show i - 1 < l.length by omega]
          rw [e1]
          by_cases h4 : l[i] ≤ l[i - 1]
          · rw [if_pos h4, if_pos ⟨h3, h4⟩]
          · rw [if_neg h4, if_neg (fun h => h4 h.2)]
            exact ih (i + 1) (by omega) k (by omega)
        · rw [if_neg (by omega), if_neg (fun h => h3 h.1), hw]
          exact ih (i + 1) (by omega) k (by omega)
theorem confFrom_member (d : Nat) : ∀ i, l.length - i = d → ∀ k, d < k → member_May.l0 k l l (l.length : Int) (i : Int) = some (confFrom l i) := by
  induction d with
  | zero =>
    intro i hd k hk
    obtain ⟨k, rfl⟩ : ∃ m, k = m + 1 := ⟨k - 1, by omega⟩
    simp only [member_May.l0]
    rw [if_neg (by omega), confFrom, dif_neg (by omega)]
    by_cases h1 : (l.length : Int) ≥ 1
    · rw [if_pos h1]; congr 1; rw [decide_eq_decide]; omega
    · rw [if_neg h1]; congr 1; symm; rw [decide_eq_false_iff_not]; omega
  | succ d ih =>
    intro i hd k hk
    obtain ⟨k, rfl⟩ : ∃ m, k = m + 1 := ⟨k - 1, by omega⟩
    have hi : i < l.length := by omega
    simp only [member_May.l0]
    rw [if_pos (by omega), if_pos (by omega), if_pos (by omega), rd_nat l i hi, confFrom, dif_pos hi]
    by_cases h1 : l[i] < 1
    · rw [if_pos h1, if_pos h1]
    · rw [if_neg h1, if_neg h1]
      by_cases h2 : l[i] > 64
      · rw [if_pos h2, if_pos h2]
      · rw [if_neg h2, if_neg h2]
        have hw : wrap64 ((i : Int) + 1) = ((i + 1 : Nat) : Int) := by rw [wrap64_id (by omega) (by omega)]; omega
        by_cases h3 : 0 < i
        · have hw2 : wrap64 ((i : Int) - 1) = ((i - 1 : Nat) : Int) := by rw [wrap64_id (by omega) (by omega)]; omega
          rw [if_pos (by omega), hw2, if_pos (by omega), if_pos (by omega), rd_nat l (i - 1) (by omega), hw]
          have e1 : l.getD (i - 1) 0 = l[i - 1] := by simp [show i - 1 < l.length by omega]
          rw [e1]
          by_cases h4 : l[i] ≤ l[i - 1]
          · rw [if_pos h4, if_pos ⟨h3, h4⟩]
          · rw [if_neg h4, if_neg (fun h => h4 h.2)]
            exact ih (i + 1) (by omega) k (by omega)
        · rw [if_neg (by omega), if_neg (fun h => h3 h.1), hw]
          exact ih (i + 1) (by omega) k (by omega)
theorem mayConf_ref (k : Nat) (hk : l.length < k) : codicilref23_MayConf.f k l = some (confB l) := confFrom_ref l hl l.length 0 (by omega) k hk
theorem mayConf_msg (k : Nat) (hk : l.length < k) : msg_mayConf.f k l = some (confB l) := confFrom_msg l hl l.length 0 (by omega) k hk
theorem mayConf_member (k : Nat) (hk : l.length < k) : member_May.f k l = some (confB l) := confFrom_member l hl l.length 0 (by omega) k hk
end

theorem mayE_msg (e : S31) (hl : e.f4.length ≤ 9223372036854775807) (k : Nat) (hk : e.f4.length + 1 < k) : msg_MayEntry.f k e.f0 e.f1 e.f2 e.f3 e.f4 = some (mayE e) := by
  obtain ⟨k, rfl⟩ : ∃ m, k = m + 1 := ⟨k - 1, by omega⟩
  have hc := mayConf_msg e.f4 hl k (by omega)
  have h0 : ∀ n : Nat, ((n : Int) == 0) = decide (n = 0) := fun n => by rw [Bool.eq_iff_iff]; simp
  unfold msg_MayEntry.f mayE
  by_cases c1 : e.f0 < 1
  · rw [if_pos c1, if_pos c1]; rfl
  rw [if_neg c1, if_neg c1]
  by_cases c2 : e.f0 > 281474976710656
  · rw [if_pos c2, if_pos c2]; rfl
  rw [if_neg c2, if_neg c2]
  by_cases c3 : e.f1 < 1
  · rw [if_pos c3, if_pos c3]; rfl
  rw [if_neg c3, if_neg c3]
  simp only [msg_MayEntry.j0]
  by_cases c4 : e.f1 > 281474976710656
  · rw [if_pos (by simpa using c4), if_pos c4]
  rw [if_neg (by simpa using c4), if_neg c4]
  by_cases c5 : e.f2 = 1
  · rw [if_pos c5, if_pos c5, h0]
    by_cases c6 : e.f3.toList = []
    · rw [if_pos c6]; simp [c6]
    · rw [if_neg c6]; simp [c6]
  rw [if_neg c5, if_neg c5]
  by_cases c6 : e.f2 = 2
  · rw [if_pos c6, if_pos c6, h0]
    by_cases c7 : (e.f3.size : Int) ≤ 8192
    · rw [if_pos c7]; simp [show e.f3.size ≤ 8192 by omega]
    · rw [if_neg c7]; simp [show ¬ e.f3.size ≤ 8192 by omega]
  rw [if_neg c6, if_neg c6]
  by_cases c7 : e.f2 = 3
  · rw [if_pos c7, if_pos c7, hc]
    by_cases c8 : e.f3.toList = []
    · rw [if_pos c8]; simp [c8]
    · rw [if_neg c8]; simp [c8]
  rw [if_neg c7, if_neg c7]
theorem mayE_ref (e : S31) (hl : e.f4.length ≤ 9223372036854775807) (k : Nat) (hk : e.f4.length + 1 < k) : codicilref23_MayEntry.f k e.f0 e.f1 e.f2 e.f3 e.f4 = some (mayE e) := by
  obtain ⟨k, rfl⟩ : ∃ m, k = m + 1 := ⟨k - 1, by omega⟩
  have hc := mayConf_ref e.f4 hl k (by omega)
  have h0 : ∀ n : Nat, ((n : Int) == 0) = decide (n = 0) := fun n => by rw [Bool.eq_iff_iff]; simp
  unfold codicilref23_MayEntry.f mayE
  by_cases c1 : e.f0 < 1
  · rw [if_pos c1, if_pos c1]; rfl
  rw [if_neg c1, if_neg c1]
  by_cases c2 : e.f0 > 281474976710656
  · rw [if_pos c2, if_pos c2]; rfl
  rw [if_neg c2, if_neg c2]
  by_cases c3 : e.f1 < 1
  · rw [if_pos c3, if_pos c3]; rfl
  rw [if_neg c3, if_neg c3]
  simp only [codicilref23_MayEntry.j0]
  by_cases c4 : e.f1 > 281474976710656
  · rw [if_pos (by simpa using c4), if_pos c4]
  rw [if_neg (by simpa using c4), if_neg c4]
  by_cases c5 : e.f2 = 1
  · rw [if_pos c5, if_pos c5, h0]
    by_cases c6 : e.f3.toList = []
    · rw [if_pos c6]; simp [c6]
    · rw [if_neg c6]; simp [c6]
  rw [if_neg c5, if_neg c5]
  by_cases c6 : e.f2 = 2
  · rw [if_pos c6, if_pos c6, h0]
    by_cases c7 : (e.f3.size : Int) ≤ 8192
    · rw [if_pos c7]; simp [show e.f3.size ≤ 8192 by omega]
    · rw [if_neg c7]; simp [show ¬ e.f3.size ≤ 8192 by omega]
  rw [if_neg c6, if_neg c6]
  by_cases c7 : e.f2 = 3
  · rw [if_pos c7, if_pos c7, hc]
    by_cases c8 : e.f3.toList = []
    · rw [if_pos c8]; simp [c8]
    · rw [if_neg c8]; simp [c8]
  rw [if_neg c7, if_neg c7]

theorem rdT_nat (l : List S31) (i : Nat) (h : i < l.length) : rd_T31 l (i : Int) = l[i] := by simp [rd_T31, h]

theorem mayES_from (es : List S31) (hl : es.length ≤ 9223372036854775806) (he : ∀ e, e ∈ es → e.f4.length ≤ 9223372036854775807) (d : Nat) :
    ∀ j i t, es.length - j = d → Ev (fun k => entry_may.l0 k i t es (es.length : Int) (j : Int)) (mayES i t (es.drop j)) := by
  induction d with
  | zero =>
    intro j i t hd
    refine ⟨1, fun k hk => ?_⟩
    obtain ⟨k, rfl⟩ : ∃ m, k = m + 1 := ⟨k - 1, by omega⟩
    simp only [entry_may.l0]
    rw [if_neg (by omega), List.drop_of_length_le (by omega)]
    rfl
  | succ d ih =>
    intro j i t hd
    have hj : j < es.length := by omega
    obtain ⟨K, hK⟩ := ih (j + 1) (es[j].f0) (es[j].f1) (by omega)
    dsimp only at hK
    refine ⟨K + es[j].f4.length + 3, fun k hk => ?_⟩
    obtain ⟨k, rfl⟩ : ∃ m, k = m + 1 := ⟨k - 1, by omega⟩
    have hm := mayE_msg es[j] (he _ (List.getElem_mem hj)) k (by omega)
    simp only [entry_may.l0]
    rw [if_pos (by omega), if_pos (by omega), if_pos (by omega), rdT_nat es j hj, hm, List.drop_eq_getElem_cons hj]
    simp only [Option.bind_some, mayES]
    by_cases c1 : mayE es[j] = true
    · rw [if_pos c1, c1]
      by_cases c2 : es[j].f0 = IntKind.u64.wrap (i + 1)
      · rw [if_pos c2]
        by_cases c3 : es[j].f1 < t
        · rw [if_pos c3]; simp [c3]
        · rw [if_neg c3, show wrap64 ((j : Int) + 1) = ((j + 1 : Nat) : Int) by rw [wrap64_id (by omega) (by omega)]; omega, hK k (by omega)]
          simp [c2, c3]
      · rw [if_neg c2]; simp [c2]
    · rw [if_neg c1]; simp [c1]
theorem mayES_may (es : List S31) (i t : Int) (hl : es.length ≤ 9223372036854775806) (he : ∀ e, e ∈ es → e.f4.length ≤ 9223372036854775807) : Ev (fun k => entry_may.f k i t es) (mayES i t es) := by
  have := mayES_from es hl he es.length 0 i t (by omega)
  simpa [entry_may.f] using this

theorem same_from (a : List Int) (hl : a.length ≤ 9223372036854775806) (d : Nat) : ∀ j, a.length - j = d → Ev (fun k => codicilref24_Same.l0 k a a (j : Int)) true := by
  induction d with
  | zero =>
    intro j hd
    refine ⟨1, fun k hk => ?_⟩
    obtain ⟨k, rfl⟩ : ∃ m, k = m + 1 := ⟨k - 1, by omega⟩
    simp only [codicilref24_Same.l0]
    rw [if_neg (by omega)]
  | succ d ih =>
    intro j hd
    obtain ⟨K, hK⟩ := ih (j + 1) (by omega)
    dsimp only at hK
    refine ⟨K + 1, fun k hk => ?_⟩
    obtain ⟨k, rfl⟩ : ∃ m, k = m + 1 := ⟨k - 1, by omega⟩
    simp only [codicilref24_Same.l0]
    rw [if_pos (by omega), if_pos (by omega), if_pos (by omega), if_true, show wrap64 ((j : Int) + 1) = ((j + 1 : Nat) : Int) by rw [wrap64_id (by omega) (by omega)]; omega]
    exact hK k (by omega)
theorem same_refl (a : List Int) (hl : a.length ≤ 9223372036854775806) : Ev (fun k => codicilref24_Same.f k a a) true := by
  obtain ⟨K, hK⟩ := same_from a hl a.length 0 (by omega)
  dsimp only at hK
  exact ⟨K, fun k hk => by dsimp only [codicilref24_Same.f]; rw [if_pos rfl]; exact hK k hk⟩

theorem sameEntry_from (e : S31) (hl : e.f4.length ≤ 9223372036854775806) (d : Nat) : ∀ j, e.f4.length - j = d → Ev (fun k => codicilref23_SameEntry.l0 k (j : Int) e.f0 e.f1 e.f2 e.f3 e.f4 e.f0 e.f1 e.f2 e.f3 e.f4) true := by
  induction d with
  | zero =>
    intro j hd
    refine ⟨1, fun k hk => ?_⟩
    obtain ⟨k, rfl⟩ : ∃ m, k = m + 1 := ⟨k - 1, by omega⟩
    simp only [codicilref23_SameEntry.l0]
    rw [if_neg (by omega)]
  | succ d ih =>
    intro j hd
    obtain ⟨K, hK⟩ := ih (j + 1) (by omega)
    dsimp only at hK
    refine ⟨K + 1, fun k hk => ?_⟩
    obtain ⟨k, rfl⟩ : ∃ m, k = m + 1 := ⟨k - 1, by omega⟩
    simp only [codicilref23_SameEntry.l0]
    rw [if_pos (by omega), if_pos (by omega), if_pos (by omega), if_true, show wrap64 ((j : Int) + 1) = ((j + 1 : Nat) : Int) by rw [wrap64_id (by omega) (by omega)]; omega]
    exact hK k (by omega)
theorem sameEntry_refl (e : S31) (hl : e.f4.length ≤ 9223372036854775806) : Ev (fun k => codicilref23_SameEntry.f k e.f0 e.f1 e.f2 e.f3 e.f4 e.f0 e.f1 e.f2 e.f3 e.f4) true := by
  obtain ⟨K, hK⟩ := sameEntry_from e hl e.f4.length 0 (by omega)
  dsimp only at hK
  refine ⟨K + 1, fun k hk => ?_⟩
  obtain ⟨k, rfl⟩ : ∃ m, k = m + 1 := ⟨k - 1, by omega⟩
  dsimp only [codicilref23_SameEntry.f]
  rw [if_pos rfl, if_pos rfl, if_pos rfl, if_pos rfl]
  simp only [codicilref23_SameEntry.j0]
  rw [if_neg (by simp)]
  exact hK k (by omega)
theorem sameEntries_from (l : List S31) (hl : l.length ≤ 9223372036854775806) (he : ∀ e, e ∈ l → e.f4.length ≤ 9223372036854775806) (d : Nat) : ∀ j, l.length - j = d → Ev (fun k => codicilref23_SameEntries.l0 k l l (j : Int)) true := by
  induction d with
  | zero =>
    intro j hd
    refine ⟨1, fun k hk => ?_⟩
    obtain ⟨k, rfl⟩ : ∃ m, k = m + 1 := ⟨k - 1, by omega⟩
    simp only [codicilref23_SameEntries.l0]
    rw [if_neg (by omega)]
  | succ d ih =>
    intro j hd
    have hj : j < l.length := by omega
    obtain ⟨K, hK⟩ := ih (j + 1) (by omega)
    dsimp only at hK
    obtain ⟨K2, hK2⟩ := sameEntry_refl l[j] (he _ (List.getElem_mem hj))
    dsimp only at hK2
    refine ⟨K + K2 + 1, fun k hk => ?_⟩
    obtain ⟨k, rfl⟩ : ∃ m, k = m + 1 := ⟨k - 1, by omega⟩
    simp only [codicilref23_SameEntries.l0]
    rw [if_pos (by omega), if_pos (by omega), if_pos (by omega), rdT_nat l j hj, hK2 k (by omega)]
    simp only [Option.bind_some, if_true]
    rw [show wrap64 ((j : Int) + 1) = ((j + 1 : Nat) : Int) by rw [wrap64_id (by omega) (by omega)]; omega]
    exact hK k (by omega)
theorem sameEntries_refl (l : List S31) (hl : l.length ≤ 9223372036854775806) (he : ∀ e, e ∈ l → e.f4.length ≤ 9223372036854775806) : Ev (fun k => codicilref23_SameEntries.f k l l) true := by
  obtain ⟨K, hK⟩ := sameEntries_from l hl he l.length 0 (by omega)
  dsimp only at hK
  exact ⟨K, fun k hk => by dsimp only [codicilref23_SameEntries.f]; rw [if_pos rfl]; exact hK k hk⟩

/-- size, as the statement reckons it. -/
def sizeFrom (l : List S31) (n : Int) (i : Nat) : Int :=
  if h : i < l.length ∧ i < 300 then sizeFrom l (wrap64 (wrap64 (wrap64 (n + 1) + (l[i].f3.size : Int)) + (l[i].f4.length : Int))) (i + 1)
  else if l.length > 200 then 1048576 else n
termination_by l.length - i
theorem size_from (l : List S31) (d : Nat) : ∀ (j : Nat) (n : Int), 300 - j = d → Ev (fun k => codicillaw26_size.l0 k l n (j : Int)) (sizeFrom l n j) := by
  induction d with
  | zero =>
    intro j n hd
    refine ⟨1, fun k hk => ?_⟩
    obtain ⟨k, rfl⟩ : ∃ m, k = m + 1 := ⟨k - 1, by omega⟩
    simp only [codicillaw26_size.l0]
    rw [sizeFrom, dif_neg (by omega)]
    by_cases h2 : l.length > 200
    · rw [if_pos h2, if_neg (show ¬ (j : Int) < 300 by omega), if_pos (show (l.length : Int) > 200 by omega)]; simp
    · rw [if_neg h2, if_neg (show ¬ (j : Int) < 300 by omega), if_neg (show ¬ (l.length : Int) > 200 by omega)]; simp
  | succ d ih =>
    intro j n hd
    by_cases hj : j < l.length
    · obtain ⟨K, hK⟩ := ih (j + 1) (wrap64 (wrap64 (wrap64 (n + 1) + (l[j].f3.size : Int)) + (l[j].f4.length : Int))) (by omega)
      dsimp only at hK
      refine ⟨K + 1, fun k hk => ?_⟩
      obtain ⟨k, rfl⟩ : ∃ m, k = m + 1 := ⟨k - 1, by omega⟩
      simp only [codicillaw26_size.l0]
      rw [if_pos (by omega), if_pos (by omega), if_pos (by omega), rdT_nat l j hj, show wrap64 ((j : Int) + 1) = ((j + 1 : Nat) : Int) by rw [wrap64_id (by omega) (by omega)]; omega, hK k (by omega)]
      conv => rhs; rw [sizeFrom, dif_pos ⟨hj, by omega⟩]
    · refine ⟨1, fun k hk => ?_⟩
      obtain ⟨k, rfl⟩ : ∃ m, k = m + 1 := ⟨k - 1, by omega⟩
      simp only [codicillaw26_size.l0]
      rw [if_neg (by omega), sizeFrom, dif_neg (by omega)]
      by_cases h2 : l.length > 200
      · rw [if_pos h2, if_pos (by omega)]
      · rw [if_neg h2, if_neg (by omega)]
def sizeS (l : List S31) : Int := sizeFrom l 0 0
theorem size_ev (l : List S31) : Ev (fun k => codicillaw26_size.f k l) (sizeS l) := size_from l 300 0 0 (by omega)

def heavyFrom (l : List S45) (n : Int) (i : Nat) : Bool :=
  if h : i < l.length ∧ i < 100 ∧ n < 1048576 then heavyFrom l (wrap64 (n + sizeS l[i].f3)) (i + 1) else decide (l.length > 60 ∨ n > 1024)
termination_by l.length - i
theorem rdS_nat (l : List S45) (i : Nat) (h : i < l.length) : rd_T45 l (i : Int) = l[i] := by simp [rd_T45, h]
theorem heavy_end (l : List S45) (n : Int) : (if (l.length : Int) > 60 then (some true) else (some (decide (n > 1024)))) = some (decide (l.length > 60 ∨ n > 1024)) := by
  by_cases h2 : l.length > 60
  · rw [if_pos (by omega)]; simp [h2]
  · rw [if_neg (by omega)]; simp [h2]
theorem heavy_from (l : List S45) (d : Nat) : ∀ (j : Nat) (n : Int), 100 - j = d → Ev (fun k => codicillaw26_heavy.l0 k l n (j : Int)) (heavyFrom l n j) := by
  induction d with
  | zero =>
    intro j n hd
    refine ⟨1, fun k hk => ?_⟩
    obtain ⟨k, rfl⟩ : ∃ m, k = m + 1 := ⟨k - 1, by omega⟩
    simp only [codicillaw26_heavy.l0]
    rw [heavyFrom, dif_neg (by omega), heavy_end]
    by_cases h1 : (j : Int) < l.length
    · rw [if_pos h1, if_neg (by omega)]
    · rw [if_neg h1]
  | succ d ih =>
    intro j n hd
    by_cases hj : j < l.length ∧ n < 1048576
    · obtain ⟨K, hK⟩ := ih (j + 1) (wrap64 (n + sizeS (l[j]'hj.1).f3)) (by omega)
      dsimp only at hK
      obtain ⟨K2, hK2⟩ := size_ev (l[j]'hj.1).f3
      dsimp only at hK2
      refine ⟨K + K2 + 1, fun k hk => ?_⟩
      obtain ⟨k, rfl⟩ : ∃ m, k = m + 1 := ⟨k - 1, by omega⟩
      simp only [codicillaw26_heavy.l0]
      rw [if_pos (by omega), if_pos (by omega), if_pos hj.2, if_pos (by omega), rdS_nat l j hj.1, hK2 k (by omega)]
      simp only [Option.bind_some]
      rw [show wrap64 ((j : Int) + 1) = ((j + 1 : Nat) : Int) by rw [wrap64_id (by omega) (by omega)]; omega, hK k (by omega)]
      conv => rhs; rw [heavyFrom, dif_pos ⟨hj.1, by omega, hj.2⟩]
    · refine ⟨1, fun k hk => ?_⟩
      obtain ⟨k, rfl⟩ : ∃ m, k = m + 1 := ⟨k - 1, by omega⟩
      simp only [codicillaw26_heavy.l0]
      rw [heavyFrom, dif_neg (fun h => hj ⟨h.1, h.2.2⟩), heavy_end]
      by_cases h1 : (j : Int) < l.length
      · rw [if_pos h1, if_pos (by omega), if_neg (fun h => hj ⟨by omega, h⟩)]
      · rw [if_neg h1]
def heavyS (l : List S45) : Bool := heavyFrom l 0 0
theorem heavy_ev (l : List S45) : Ev (fun k => codicillaw26_heavy.f k l) (heavyS l) := heavy_from l 100 0 0 (by omega)

theorem mayE_conf {e : S31} (h : mayE e = true) : e.f4.length ≤ 7 := by
  unfold mayE at h
  by_cases c1 : e.f0 < 1
  · rw [if_pos c1] at h; cases h
  rw [if_neg c1] at h
  by_cases c2 : e.f0 > 281474976710656
  · rw [if_pos c2] at h; cases h
  rw [if_neg c2] at h
  by_cases c3 : e.f1 < 1
  · rw [if_pos c3] at h; cases h
  rw [if_neg c3] at h
  by_cases c4 : e.f1 > 281474976710656
  · rw [if_pos c4] at h; cases h
  rw [if_neg c4] at h
  by_cases c5 : e.f2 = 1
  · rw [if_pos c5] at h; have := (of_decide_eq_true h).2; omega
  rw [if_neg c5] at h
  by_cases c6 : e.f2 = 2
  · rw [if_pos c6] at h; have := (of_decide_eq_true h).2; omega
  rw [if_neg c6] at h
  by_cases c7 : e.f2 = 3
  · rw [if_pos c7, Bool.and_eq_true] at h; exact (confB_len h.2).2
  · rw [if_neg c7] at h; cases h
theorem mayE_f0 {e : S31} (h : mayE e = true) : 1 ≤ e.f0 ∧ e.f0 ≤ 281474976710656 ∧ 1 ≤ e.f1 ∧ e.f1 ≤ 281474976710656 := by
  unfold mayE at h
  by_cases c1 : e.f0 < 1
  · rw [if_pos c1] at h; cases h
  rw [if_neg c1] at h
  by_cases c2 : e.f0 > 281474976710656
  · rw [if_pos c2] at h; cases h
  rw [if_neg c2] at h
  by_cases c3 : e.f1 < 1
  · rw [if_pos c3] at h; cases h
  rw [if_neg c3] at h
  by_cases c4 : e.f1 > 281474976710656
  · rw [if_pos c4] at h; cases h
  omega
end Go.Proofs.Ytpnmodkddiljeaa
