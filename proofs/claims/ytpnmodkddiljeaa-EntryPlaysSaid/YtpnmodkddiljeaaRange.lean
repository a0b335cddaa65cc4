/- A range over a function: the iterator's word, and the law of the loop, both in the words of Fr (what is kept). No conditions. -/
import Derived.Test.YtpnmodkddiljeaaBase
import Derived.RangeFuncNested
import Derived.RangeFuncBound
import Derived.RangeFuncCalls
import Derived.RangeFuncLeaves
namespace Go.Proofs.Ytpnmodkddiljeaa
open Go.RowKit Go.Proofs.YtpnmodkddiljeaaW.PrintWords

/-- The c blocks from b on. -/
def Span (b c k : Nat) : Prop := b ≤ k ∧ k < b + c

/-- An iterator's word: it hands the elements of xs to yield, one behind the other, till a round says no more. M: what a round of its caller's may write (beside the caller's own record, l); the iterator itself writes nothing that lay but the first c blocks that it laid. -/
def SeqC {α : Type} (P : Program) (g : Nat) (lb : Array Value) (encs : α → Array Value) (xs : List α) (c : Nat) (M : Nat → Prop) (w : World) : Prop :=
  ∀ (l : Nat) (J Jx : List α → World → Prop) (W : World), Fr w W M → w.heap.size ≤ l → l < W.heap.size →
    (∀ pre W1 W2, J pre W1 → Fr W1 W2 (Span W.heap.size c) → J pre W2) →
    (∀ pre W1 W2, Jx pre W1 → Fr W1 W2 (Span W.heap.size c) → Jx pre W2) →
    (∀ pre x W1, J pre W1 → pre ++ [x] <+: xs → W.heap.size + c ≤ W1.heap.size → YieldAt Fence.wide 9 P l (encs x) W1 fun e W' =>
      (e = .returned (.bool true) ∧ J (pre ++ [x]) W' ∧ Fr W1 W' (fun k => M k ∨ k = l)) ∨ (e = .returned (.bool false) ∧ Jx (pre ++ [x]) W' ∧ Fr W1 W' (fun k => M k ∨ k = l))) →
    J [] W →
    CallsIn Fence.wide 9 P g (#[.func (.yield l) #[] #[]] ++ lb) W fun e W' => (∃ v, e = .returned v) ∧ (J xs W' ∨ ∃ pre, pre <+: xs ∧ Jx pre W')

/-- How a round's body may be left. -/
def rPost {α : Type} (M : Nat → Prop) (I : List α → World → Prop) (Ix : Code → List α → World → Prop) (xs : List α) (W : World) : Exit → Act → World → Prop
  | .normal, _, W' => Fr W W' M ∧ I xs W'
  | .ret, _, W' => Fr W W' M ∧ Ix .ret xs W'
  | .exit id, _, W' => Fr W W' M ∧ Ix (.exit id) xs W'
  | .goto t, _, W' => Fr W W' M ∧ Ix (.goto t) xs W'
  | .panic _, _, _ => False
  | .outgrown, _, _ => False

theorem Fr.putObj {w W : World} {S : Nat → Prop} (h : Fr w W S) {l : Nat} (hl : S l ∨ w.heap.size ≤ l) (o : Obj) : Fr w (W.putObj l o) S :=
  h.trans (S1 := fun k => k = l) ⟨rfl, rfl, rfl, by simp, fun k _ hk => World.putObj_heap_other hk⟩ (fun i hi => by rw [hi]; exact hl)

theorem range_law {α : Type} {P : Program} {g : Operand} {ps : Array Tmp} {assign body : Code} {Q : Exit → Act → World → Prop} {a : Act} {w : World} {gf : Nat} {lb : Array Value}
    (hg : a.eval g = .func (.func gf) #[] lb) (eg : ∀ args w, (callFunc gf args).run P w = .ok (.enter gf args) w)
    {encs : α → Array Value} {xs : List α} {c : Nat} {M : Nat → Prop} (hseq : SeqC P gf lb encs xs c M w) (hM : ∀ k, M k → k < w.heap.size) (hps : ∀ x, (encs x).size = ps.size)
    (I : List α → World → Prop) (Ix : Code → List α → World → Prop) (Ax : List α → α → Act → World → Prop)
    (hI : ∀ pre W W', I pre W → Fr W W' (Span w.heap.size (2 + c)) → I pre W') (hIx : ∀ j pre W W', Ix j pre W → Fr W W' (Span w.heap.size (2 + c)) → Ix j pre W')
    (hAx : ∀ pre x a₁ W W', Ax pre x a₁ W → Fr W W' (Span w.heap.size 2) → Ax pre x a₁ W') (h0 : I [] w)
    (hassign : ∀ (l : Nat) (pre : List α) (x : α) (W : World), w.heap.size + 2 + c ≤ W.heap.size → pre ++ [x] <+: xs → I pre W →
      assign.wpIn (Fence.wide.inRound l) 9 P (Exit.then (fun a₁ W₁ => Fr W W₁ M ∧ Ax pre x a₁ W₁) (fun _ _ _ => False)) { tmps := (ps.zip (encs x)).foldl (fun t (p, v) => t.setIfInBounds p v) a.tmps, defers := [] } W)
    (hbody : ∀ (l : Nat) (pre : List α) (x : α) (a₁ : Act) (W : World), w.heap.size + 2 + c ≤ W.heap.size → pre ++ [x] <+: xs → Ax pre x a₁ W → body.wpIn (Fence.wide.inRound l) 9 P (rPost M I Ix (pre ++ [x]) W) a₁ W)
    (hdone : ∀ (W : World), I xs W → W.heap[w.heap.size]? = some (.deferred (some [])) → Q .normal { a with defers := { target := .collected w.heap.size, args := #[] } :: a.defers } W)
    (hstop : ∀ (j : Code) (pre : List α) (W : World), pre <+: xs → Ix j pre W → W.heap[w.heap.size]? = some (.deferred (some [])) → j.wpIn Fence.wide 9 P Q { a with defers := { target := .collected w.heap.size, args := #[] } :: a.defers } W) :
    (Code.rangeFunc g ps assign body).wpIn Fence.wide 9 P Q a w := by
  refine wpIn_rangeFunc ?_
  intro fn hfn
  obtain ⟨rec, hrec⟩ : ∃ rec : LoopState → Option Code → Loop, rec = fun st pe => { state := st, pending := pe, fn, tmps := a.tmps, params := ps, assign, body, defers := w.heap.size } := ⟨_, rfl⟩
  obtain ⟨W1, hW1⟩ : ∃ W1, (w.alloc (.deferred (some []))).alloc (.loop (rec .ready none)) = W1 := ⟨_, rfl⟩
  have hsz : W1.heap.size = w.heap.size + 2 := by rw [← hW1]; simp
  have hL1 : W1.heap[w.heap.size + 1]? = some (.loop (rec .ready none)) := by
    rw [← hW1]; have := World.alloc_heap_new (w.alloc (.deferred (some []))) (.loop (rec .ready none)); rwa [World.size_alloc] at this
  have hK1 : W1.heap[w.heap.size]? = some (.deferred (some [])) := by
    rw [← hW1]; exact (Below.heap_alloc _ _ _ (by simp)).trans (World.alloc_heap_new w _)
  have hF1 : Fr w W1 M := by rw [← hW1]; exact ((Fr.refl w M).alloc _).alloc _
  have hI1 : I [] W1 := hI _ _ _ h0 (by rw [← hW1]; exact ((Fr.refl w _).alloc _).alloc _)
  -- what the iterator may turn is none of the two blocks
  have far : ∀ {A B : World} {k : Nat} {o : Obj}, k < w.heap.size + 2 → Fr A B (Span W1.heap.size c) → A.heap[k]? = some o → B.heap[k]? = some o := by
    intro A B k o hk hf ho
    exact hf.blk (fun h => by have := h.1; omega) ho
  have near : ∀ {A B : World}, Fr A B (Span W1.heap.size c) → Fr A B (Span w.heap.size (2 + c)) := fun hf => hf.mono (fun k _ h => ⟨by have := h.1; omega, by have := h.2; omega⟩)
  have own : ∀ {A : World} (o : Obj), Fr A (A.putObj (w.heap.size + 1) o) (Span w.heap.size (2 + c)) := fun o => (Fr.refl _ _).putObj (.inl ⟨by omega, by omega⟩) o
  refine ⟨w.heap.size + 1, [{ target := .collected w.heap.size, args := #[] }], W1, { target := .fn (.func gf) lb, args := #[.func (.yield (w.heap.size + 1)) #[] #[]] }, W1, gf,
    #[.func (.yield (w.heap.size + 1)) #[] #[]] ++ lb, W1, ?_, ?_, fun _ _ => trivial, ?_, fun h => by simp [Fence.wide] at h, ?_⟩
  · rw [← hW1, hrec]; exact run_enterLoop_outer _ _ _ _ _
  · simp only [resolve, hg]
    simp [go_sem]
  · simp [invoke, go_sem, eg]
  · refine callsIn_wide.2 ((callsIn_wide.1 (hseq (w.heap.size + 1)
      (fun pre W => I pre W ∧ W.heap[w.heap.size + 1]? = some (.loop (rec .ready none)) ∧ W.heap[w.heap.size]? = some (.deferred (some [])))
      (fun pre W => ∃ j, Ix j pre W ∧ W.heap[w.heap.size + 1]? = some (.loop (rec .done (some j))) ∧ W.heap[w.heap.size]? = some (.deferred (some [])))
      W1 hF1 (by omega) (by omega)
      (fun pre A B h hf => ⟨hI _ _ _ h.1 (near hf), far (by omega) hf h.2.1, far (by omega) hf h.2.2⟩)
      (fun pre A B h hf => by obtain ⟨j, h1, h2, h3⟩ := h; exact ⟨j, hIx _ _ _ _ h1 (near hf), far (by omega) hf h2, far (by omega) hf h3⟩)
      ?_ ⟨hI1, hL1, hK1⟩)).mono ?_)
    · -- one round
      rintro pre x W ⟨hi, hl, hk⟩ hpre hlarge
      have hlt : w.heap.size + 1 < W.heap.size := (Array.getElem?_eq_some_iff.1 hl).1
      have hy := run_yield (P := P) (args := encs x) hl (by rw [hrec]; exact hps x)
      rw [hrec] at hy
      refine ⟨fn, _, assign, body, hy, roundIn_of_wpIn hfn ?_⟩
      refine wpIn_mono (hassign (w.heap.size + 1) pre x W (by omega) hpre hi) ?_
      rintro e a₁ Wa h
      cases e with
      | normal =>
        obtain ⟨hfa, hax⟩ := h
        have hnM : ∀ k, w.heap.size ≤ k → ¬ M k := fun k hk h => by have := hM k h; omega
        have hla := hfa.blk (hnM _ (by omega)) hl
        have hka := hfa.blk (hnM _ (by omega)) hk
        have hlta : w.heap.size + 1 < Wa.heap.size := (Array.getElem?_eq_some_iff.1 hla).1
        obtain ⟨Wb, hWb⟩ : ∃ Wb, Wa.putObj (w.heap.size + 1) (.loop { rec .ready none with state := .busy }) = Wb := ⟨_, rfl⟩
        have hfb : Fr Wa Wb (fun k => k = w.heap.size + 1) := by rw [← hWb]; exact Fr.putObj (S := fun k => k = w.heap.size + 1) (Fr.refl _ _) (.inl rfl) _
        have hlb : Wb.heap[w.heap.size + 1]? = some (.loop { rec .ready none with state := .busy }) := by rw [← hWb]; exact World.putObj_heap_same hlta
        have hkb : Wb.heap[w.heap.size]? = some (.deferred (some [])) := hfb.blk (by omega) hka
        have haxb : Ax pre x a₁ Wb := by rw [← hWb]; exact hAx _ _ _ _ _ hax ((Fr.refl _ _).putObj (.inl ⟨by omega, by omega⟩) _)
        refine ⟨Wb, by rw [← hWb]; exact run_beginRound hla (by rw [hrec]), ?_⟩
        refine wpIn_mono (hbody (w.heap.size + 1) pre x a₁ Wb (by have := hfb.size; have := hfa.size; omega) hpre haxb) ?_
        have fin : ∀ (jump : Option Code) (W3 : World), Fr Wb W3 M →
            (Instr.endRound (w.heap.size + 1) jump).run P W3 = .ok (.bool jump.isNone) (W3.putObj (w.heap.size + 1) (.loop (rec (if jump.isNone then .ready else .done) jump))) ∧
            (W3.putObj (w.heap.size + 1) (.loop (rec (if jump.isNone then .ready else .done) jump))).heap[w.heap.size + 1]? = some (.loop (rec (if jump.isNone then .ready else .done) jump)) ∧
            (W3.putObj (w.heap.size + 1) (.loop (rec (if jump.isNone then .ready else .done) jump))).heap[w.heap.size]? = some (.deferred (some [])) := fun jump W3 hf3 => by
          have hl3 := hf3.blk (hnM _ (by omega)) hlb
          have hk3 := hf3.blk (hnM _ (by omega)) hkb
          have := run_endRound (P := P) jump hl3
          rw [hrec] at this ⊢
          exact ⟨this, World.putObj_heap_same (Array.getElem?_eq_some_iff.1 hl3).1, (World.putObj_heap_other (by omega)).trans hk3⟩
        have whole : ∀ (W3 : World) (o : Obj), Fr Wb W3 M → Fr W (W3.putObj (w.heap.size + 1) o) (fun k => M k ∨ k = w.heap.size + 1) := fun W3 o hf3 =>
          (((hfa.mono (S1 := fun k => M k ∨ k = w.heap.size + 1) (fun _ _ h => .inl h)).trans hfb (fun i hi => .inl (.inr hi))).trans hf3 (fun i hi => .inl (.inl hi))).putObj (.inl (.inr rfl)) _
        rintro e a3 W3 hp
        cases e with
        | normal =>
          obtain ⟨hf3, hi3⟩ := hp
          obtain ⟨hr, hl4, hk4⟩ := fin none W3 hf3
          exact ⟨_, _, hr, .inl ⟨rfl, ⟨hI _ _ _ hi3 (own _), hl4, hk4⟩, whole _ _ hf3⟩⟩
        | ret =>
          obtain ⟨hf3, hi3⟩ := hp
          obtain ⟨hr, hl4, hk4⟩ := fin (some .ret) W3 hf3
          exact ⟨_, _, hr, .inr ⟨rfl, ⟨.ret, hIx _ _ _ _ hi3 (own _), hl4, hk4⟩, whole _ _ hf3⟩⟩
        | exit id =>
          obtain ⟨hf3, hi3⟩ := hp
          obtain ⟨hr, hl4, hk4⟩ := fin (some (.exit id)) W3 hf3
          exact ⟨_, _, hr, .inr ⟨rfl, ⟨.exit id, hIx _ _ _ _ hi3 (own _), hl4, hk4⟩, whole _ _ hf3⟩⟩
        | goto t =>
          obtain ⟨hf3, hi3⟩ := hp
          obtain ⟨hr, hl4, hk4⟩ := fin (some (.goto t)) W3 hf3
          exact ⟨_, _, hr, .inr ⟨rfl, ⟨.goto t, hIx _ _ _ _ hi3 (own _), hl4, hk4⟩, whole _ _ hf3⟩⟩
        | panic ch => exact hp.elim
        | outgrown => exact hp.elim
      | exit id => exact h.elim
      | goto t => exact h.elim
      | ret => exact h.elim
      | panic ch => exact h.elim
      | outgrown => exact h.elim
    · -- behind the iterator
      rintro e W2 ⟨⟨v, rfl⟩, (⟨hi, hl, hk⟩ | ⟨pre, hpre, j, hi, hl, hk⟩)⟩
      · exact ⟨none, _, by have := run_endLoop (P := P) hl (by rw [hrec]; simp); rw [hrec] at this; exact this, hdone _ (hI _ _ _ hi (own _)) ((World.putObj_heap_other (by omega)).trans hk)⟩
      · exact ⟨some j, _, by have := run_endLoop (P := P) hl (by rw [hrec]; simp); rw [hrec] at this; exact this, hstop j pre _ hpre (hIx _ _ _ _ hi (own _)) ((World.putObj_heap_other (by omega)).trans hk)⟩
end Go.Proofs.Ytpnmodkddiljeaa
