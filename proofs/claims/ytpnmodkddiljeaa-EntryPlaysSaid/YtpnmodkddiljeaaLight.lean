/- What a script that is not heavy holds; what playing it comes to. No walk. -/
import Derived.Test.YtpnmodkddiljeaaCopied
namespace Go.Proofs.Ytpnmodkddiljeaa
open Go.RowKit Go.Proofs.YtpnmodkddiljeaaW.PrintWords PEntryPlays Go.Shelf

/-- An entry whose parts lie within the reach. -/
def GoodE (e : S31) : Prop := e.f3.size ≤ 140737488351232 ∧ e.f4.length ≤ 140737488351232
theorem sizeFrom_ge (l : List S31) (hg : ∀ e, e ∈ l → GoodE e) (d : Nat) : ∀ (i : Nat) (n : Int), 300 - i = d → i ≤ 300 → 0 ≤ n → n ≤ i * 300000000000000 →
    0 ≤ sizeFrom l n i ∧ sizeFrom l n i ≤ 90000000000000000 ∧ (sizeFrom l n i ≤ 4096 → l.length ≤ 200 ∧ n ≤ sizeFrom l n i ∧ ∀ j (hj : j < l.length), i ≤ j → (l[j].f4.length : Int) ≤ sizeFrom l n i) := by
  induction d with
  | zero =>
    intro i n hd hi h0 h1
    unfold sizeFrom
    rw [dif_neg (by omega)]
    split
    · exact ⟨by omega, by omega, fun h => by omega⟩
    · exact ⟨h0, by omega, fun h => ⟨by omega, Int.le_refl _, fun j hj hij => by omega⟩⟩
  | succ d ih =>
    intro i n hd hi h0 h1
    unfold sizeFrom
    by_cases h : i < l.length ∧ i < 300
    · rw [dif_pos h]
      obtain ⟨g1, g2⟩ := hg l[i] (List.getElem_mem _)
      have e1 : wrap64 (wrap64 (wrap64 (n + 1) + (l[i].f3.size : Int)) + (l[i].f4.length : Int)) = n + 1 + l[i].f3.size + l[i].f4.length := by
        rw [show wrap64 (n + 1) = n + 1 from wrap64_id (by omega) (by omega), show wrap64 (n + 1 + (l[i].f3.size : Int)) = n + 1 + (l[i].f3.size : Int) from wrap64_id (by omega) (by omega)]
        exact wrap64_id (by omega) (by omega)
      rw [e1]
      obtain ⟨a1, a2, a3⟩ := ih (i + 1) (n + 1 + l[i].f3.size + l[i].f4.length) (by omega) (by omega) (by omega) (by omega)
      refine ⟨a1, a2, fun hs => ?_⟩
      obtain ⟨b1, b2, b3⟩ := a3 hs
      refine ⟨b1, by omega, fun j hj hij => ?_⟩
      by_cases hji : j = i
      · subst hji; omega
      · exact b3 j hj (by omega)
    · rw [dif_neg h]
      split
      · exact ⟨by omega, by omega, fun h => by omega⟩
      · exact ⟨h0, by omega, fun h => ⟨by omega, Int.le_refl _, fun j hj hij => by omega⟩⟩
theorem sizeS_ge (l : List S31) (hg : ∀ e, e ∈ l → GoodE e) : 0 ≤ sizeS l ∧ sizeS l ≤ 90000000000000000 := by
  obtain ⟨a, b, _⟩ := sizeFrom_ge l hg 300 0 0 rfl (by omega) (by omega) (by omega)
  exact ⟨a, b⟩
theorem sizeS_small {l : List S31} (hg : ∀ e, e ∈ l → GoodE e) (h : sizeS l ≤ 4096) : l.length ≤ 4096 ∧ ∀ e, e ∈ l → e.f4.length ≤ 4096 := by
  obtain ⟨_, _, c⟩ := sizeFrom_ge l hg 300 0 0 rfl (by omega) (by omega) (by omega)
  obtain ⟨c1, _, c3⟩ := c h
  refine ⟨by omega, fun e he => ?_⟩
  obtain ⟨j, hj, rfl⟩ := List.getElem_of_mem he
  have := c3 j hj (by omega)
  have h' : sizeFrom l 0 0 ≤ 4096 := h
  omega
theorem heavyFrom_ge (l : List S45) (hg : ∀ s, s ∈ l → ∀ e, e ∈ s.f3 → GoodE e) (d : Nat) : ∀ (i : Nat) (n : Int), 100 - i = d → i ≤ 100 → 0 ≤ n → n ≤ 90000000001048576 → heavyFrom l n i = false → n ≤ 1024 ∧ l.length ≤ 60 ∧ ∀ j (hj : j < l.length), i ≤ j → sizeS l[j].f3 ≤ 1024 := by
  induction d with
  | zero =>
    intro i n hd hi h0 h1 h
    unfold heavyFrom at h
    rw [dif_neg (by omega)] at h
    simp only [decide_eq_false_iff_not, not_or] at h
    exact ⟨by omega, by omega, fun j hj hij => by omega⟩
  | succ d ih =>
    intro i n hd hi h0 h1 h
    unfold heavyFrom at h
    by_cases hc : i < l.length ∧ i < 100 ∧ n < 1048576
    · rw [dif_pos hc] at h
      obtain ⟨g1, g2⟩ := sizeS_ge l[i].f3 (hg l[i] (List.getElem_mem _))
      rw [wrap64_id (by omega) (by omega)] at h
      obtain ⟨a1, a2, a3⟩ := ih (i + 1) _ (by omega) (by omega) (by omega) (by omega) h
      refine ⟨by omega, a2, fun j hj hij => ?_⟩
      by_cases hji : j = i
      · subst hji; omega
      · exact a3 j hj (by omega)
    · rw [dif_neg hc] at h
      simp only [decide_eq_false_iff_not, not_or] at h
      exact ⟨by omega, by omega, fun j hj hij => by omega⟩
theorem heavy_light {l : List S45} (hg : ∀ s, s ∈ l → ∀ e, e ∈ s.f3 → GoodE e) (h : heavyS l = false) : l.length ≤ 60 ∧ ∀ s, s ∈ l → s.f3.length ≤ 4096 ∧ ∀ e, e ∈ s.f3 → e.f4.length ≤ 4096 := by
  obtain ⟨_, a, b⟩ := heavyFrom_ge l hg 100 0 0 rfl (by omega) (by omega) (by omega) h
  refine ⟨a, fun s hs => ?_⟩
  obtain ⟨j, hj, rfl⟩ := List.getElem_of_mem hs
  exact sizeS_small (hg _ hs) (by have := b j hj (by omega); omega)

/-- What a step of a script comes to (append, store, compact). -/
def LS.play (st : LS) (s : S45) : LS :=
  if s.f0 = 0 then (match s.f3 with | [] => st | x :: _ => (st.append x).1) else if s.f0 = 1 then (st.store s.f1 s.f2 s.f3).st else if s.f0 = 2 then (st.compact s.f1).1 else st
theorem LSok.play {st : LS} (h : LSok st) {s : S45} (hi : 0 ≤ s.f1) : LSok (st.play s) := by
  unfold LS.play
  split
  · split
    · exact h
    · exact h.append _
  split
  · exact h.store hi _
  split
  · exact h.compact _
  · exact h
end Go.Proofs.Ytpnmodkddiljeaa
