/- A region that draws its order, in a loop's round: by the same steps as elsewhere. Conditions: no defer statement in it; the way out does not grow. -/
import Derived.Test.YtpnmodkddiljeaaIter
namespace Go.Proofs.Ytpnmodkddiljeaa
open Go.RowKit Go.Proofs.YtpnmodkddiljeaaW.PrintWords Go.Proofs.YtpnmodkddiljeaaW.PrintLast PEntryPlays Go.Shelf

section
variable {P : Program} {ops : Array Oper} {Q : Exit → Act → World → Prop}

theorem uponIn_round {o : Oper} {n l : Nat} {a : Act} {K K' : Act → World → Prop} {r : Result Go.Next} (hQ : ¬ LetsOut Q) (hK : ∀ a w, K a w → K' a w) (h : o.upon P a K Q r) : o.uponIn (Fence.wide.inRound l) n P a K' Q r := by
  unfold Oper.upon at h
  split at h
  · exact hK _ _ h
  · exact hK _ _ h
  · exact hK _ _ h
  · refine ⟨fun h => by simp [Fence.wide] at h, CallsIn.inRound l (callsIn_wide.2 (Calls.mono h ?_))⟩
    rintro e w' he
    cases e with
    | returned v => exact hK _ _ he
    | panicked c => exact he
    | outgrown => exact (hQ he).elim
  · refine ⟨fun h => by simp [Fence.wide] at h, ?_⟩
    intro c cs _
    obtain ⟨v, w'', hr, hs⟩ := h c cs
    exact ⟨v, w'', hK _ _ hr, stepsIn_wide.2 hs⟩
  · exact h
  · exact h.elim

theorem wpOpsIn_round {n l : Nat} (hd : ∀ (i : Nat) (o : Oper), ops[i]? = some o → ∀ c, o.op ≠ .defer c) (hQ : ¬ LetsOut Q) : ∀ (is : List Nat) (a : Act) (w : World), wpOps P ops Q is a w → wpOpsIn (Fence.wide.inRound l) n P ops Q is a w := by
  intro is
  induction is with
  | nil => exact fun _ _ h => h
  | cons i rest ih =>
    intro a w h
    simp only [wpOps] at h
    simp only [wpOpsIn]
    cases ho : ops[i]? with
    | none => rw [ho] at h; exact ih _ _ h
    | some o =>
      rw [ho] at h
      simp only at h ⊢
      split
      · rename_i hw
        rw [if_pos hw] at h
        rcases h with h | ⟨_, h⟩
        · refine ⟨fun _ _ => trivial, ?_⟩
          rw [Oper.semAt_eq _ _ _ (hd i o ho)]
          exact uponIn_round hQ ih h
        · exact (hQ h).elim
      · rename_i hw
        rw [if_neg hw] at h
        exact ⟨fun _ _ => trivial, ih _ _ h⟩

theorem startR_ {S : World → Prop} {ds : List Nat} {id n m r : Nat} {a : Act} {w : World} (l : Array Bool) (hd : ops.all (fun o => match o.op with | .defer _ => false | _ => true) = true) (hQ : ¬ LetsOut Q) (hm : P.follows .mixedOrders = true) (hn : ops.size = n) (hl : Array.replicate n false = l) (hS : S w.drew)
    (h : S w.drew → wpAnyLast P .any ops Q S ds n l a w.drew) : (Code.region id ops true).wpIn (Fence.wide.inRound r) m P Q a w := by
  subst hn
  subst hl
  exact wpIn_region_draw fun t => wpOpsIn_round (fun i o ho c hc => by
    have := Array.all_eq_true.1 hd i (Array.getElem?_eq_some_iff.1 ho).1
    rw [(Array.getElem?_eq_some_iff.1 ho).2, hc] at this
    cases this) hQ _ _ _ (by
    simp only [Region.schedule, hm, Bool.true_or, if_true]
    exact wpAny_sound ops.size t _ a _ (wpAny_of_last _ _ _ _ (h hS)))

/-- No panic comes out. -/
def Calm (Q : Exit → Act → World → Prop) : Exit → Act → World → Prop
  | .panic _, _, _ => False
  | e, a, w => Q e a w
theorem wp_calm {c : Code} {a : Act} {w : World} (h : c.wp P (Calm Q) a w) : c.wp P Q a w := wp_mono h (fun e a w h => by cases e <;> first | exact h | exact h.elim)
end
end Go.Proofs.Ytpnmodkddiljeaa
