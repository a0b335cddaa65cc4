/- Arguments read as data: rows of entries, of steps, with what the reach says of their sizes. No conditions. -/
import Derived.Test.YtpnmodkddiljeaaRows
import Derived.Test.YtpnmodkddiljeaaLight
import Derived.Deep.Slices
import Derived.Deep.Fields
import Derived.ChangeSame
import Derived.ProofKit
import Derived.SizedLaws
namespace Go.Proofs.Ytpnmodkddiljeaa
open Go.RowKit Go.ChangeShapes Go.WideShapes Go.Deep Go.Proofs.YtpnmodkddiljeaaW.PrintWords PEntryPlays

section
variable {H : Type} {enc : TypeId × Value → H} {W : World} {base : Nat} {spare : Nat → Bool} {held : Bool}

/-- What a type's cells are read as. -/
def Reads {α : Type} (enc : TypeId × Value → H) (W : World) (base : Nat) (spare : Nat → Bool) (held : Bool) (t : TypeId) (K : α → List Value → Prop) (good : α → Prop) : Prop :=
  ∀ (fuel : Nat) (cs : List Value) (x : DataW H × List MemPlace), DataW.trod enc Try.prog W base spare held fuel t cs = some x → (∀ n, n ∈ x.1.weights Try.prog t → n ≤ reachBytes) → ∃ a, K a cs ∧ good a

theorem reads_int {t : TypeId} {k : IntKind} (ht : Try.prog.underlying t = some (.int k)) : Reads (H := H) enc W base spare held t (fun n cs => cs = [.int k n]) (fun n => (Lit.int k n).wf = true) := by
  intro fuel cs x h _
  obtain ⟨n, h1, _, h3⟩ := DataW.trod_int ht h
  exact ⟨n, h1, h3⟩
theorem reads_string {t : TypeId} (ht : Try.prog.underlying t = some .string) : Reads (H := H) enc W base spare held t (fun s cs => cs = [.string s]) (fun s => s.size ≤ reachBytes) := by
  intro fuel cs x h hw
  obtain ⟨s, h1, rfl, _⟩ := DataW.trod_string ht h
  refine ⟨s, h1, ?_⟩
  have := hw s.data.toList.length (by simp [DataW.weights])
  simpa using this

theorem list_of {α : Type} {Q : Nat → α → Prop} : ∀ (n : Nat), (∀ i, i < n → ∃ a, Q i a) → ∃ xs : List α, xs.length = n ∧ ∀ i (h : i < xs.length), Q i xs[i]
  | 0, _ => ⟨[], rfl, fun i h => by simp at h⟩
  | n + 1, h => by
    obtain ⟨xs, hl, hx⟩ := list_of n (fun i hi => h i (by omega))
    obtain ⟨a, ha⟩ := h n (by omega)
    refine ⟨xs ++ [a], by simp [hl], fun i hi => ?_⟩
    rw [List.getElem_append]
    split
    · exact hx i _
    · rw [List.length_append, List.length_singleton] at hi
      obtain rfl : i = n := by omega
      simpa using ha

theorem weights_all {e : TypeId} : ∀ {l : List (DataW H)} {d : DataW H}, d ∈ l → ∀ n, n ∈ d.weights Try.prog e → n ∈ DataW.weightsAll Try.prog e l
  | [], _, h, _, _ => by cases h
  | y :: l, d, h, n, hn => by
    rw [DataW.weightsAll]
    rcases List.mem_cons.1 h with rfl | h
    · exact List.mem_append.2 (.inl hn)
    · exact List.mem_append.2 (.inr (weights_all h n hn))

theorem reads_slice {α : Type} {t e : TypeId} {B : Nat} (d : Kd α) {good : α → Prop} (ht : Try.prog.underlying t = some (.slice e)) (hC : Try.prog.cellsOf e = d.sz) (hB : Try.prog.bytesOf e = B) (hd : Reads (H := H) enc W base spare held e (fun a cs => d.K W a cs) good) :
    Reads (H := H) enc W base spare held t (fun xs cs => ∃ A c, cs = [.slice A xs.length c] ∧ xs.length ≤ c ∧ d.C W A xs.length xs) (fun xs => xs.length * B ≤ reachBytes ∧ ∀ x, x ∈ xs → good x) := by
  intro fuel cs x h hw
  rcases open_slice ht h with ⟨rfl, _⟩ | ⟨a, len, cap, m, n, D, Pl, rfl, _, hl, hm, hmm, rfl, hi⟩
  · exact ⟨[], ⟨none, 0, rfl, Nat.le_refl _, rfl, by simp, fun h => absurd h (Nat.lt_irrefl 0)⟩, by simp, fun x hx => by cases hx⟩
  · have hlm : len ≤ m := by rw [hmm]; split <;> omega
    simp only [DataW.weights, ht] at hw
    obtain ⟨xs, hxl, hx⟩ := list_of (Q := fun i a' => ∃ cs', W.cells? base (a.add (i * Try.prog.cellsOf e)) (Try.prog.cellsOf e) = some cs' ∧ d.K W a' cs' ∧ good a') len (fun i hil => by
      obtain ⟨cs', h1, h2⟩ := hi i (by omega)
      obtain ⟨a', h3, h4⟩ := hd n cs' _ h2 (fun q hq => hw q (List.mem_cons_of_mem _ (List.mem_append.2 (.inl (weights_all (List.mem_map.2 ⟨i, List.mem_range.2 hil, rfl⟩) q hq)))))
      exact ⟨a', cs', h1, h3, h4⟩)
    subst hxl
    refine ⟨xs, ⟨some a, cap, rfl, hl, rfl, ?_, fun _ => ⟨a, rfl, fun j p hj => ?_⟩⟩, ?_, fun y hy => ?_⟩
    · have : maxLen = 9223372036854775807 := rfl
      omega
    · obtain ⟨hj1, hj2⟩ := List.getElem?_eq_some_iff.1 hj
      obtain ⟨cs', h1, h2, _⟩ := hx j hj1
      rw [hj2] at h2
      obtain ⟨_, h3, h4⟩ := World.cells?_some h1
      rw [hC] at h3 h4
      refine ⟨cs', h3, h2, fun i u hu => ?_⟩
      have hil : i < d.sz := by rw [← h3]; exact (List.getElem?_eq_some_iff.1 hu).1
      rw [← Go.Deep.add_add, h4 i hil]
      exact hu
    · have := hw _ (List.mem_cons_self)
      rw [hB] at this
      simp only [List.length_map, List.length_range] at this
      refine Nat.le_trans (Nat.mul_le_mul_right B (Nat.le_add_right _ _)) this
    · obtain ⟨j, hj, rfl⟩ := List.getElem_of_mem hy
      obtain ⟨_, _, _, h3⟩ := hx j hj
      exact h3

theorem u64_of {n : Int} (h : (Lit.int .u64 n).wf = true) : 0 ≤ n ∧ n ≤ 18446744073709551615 := by
  have h1 : IntKind.u64.min = 0 := rfl
  have h2 : IntKind.u64.max = 18446744073709551615 := rfl
  simp only [Lit.wf, Bool.and_eq_true, decide_eq_true_eq] at h
  omega

theorem five {α : Type} {l : List α} (h : l.length = 5) : ∃ a b c d e, l = [a, b, c, d, e] := by
  match l, h with
  | [a, b, c, d, e], _ => exact ⟨a, b, c, d, e, rfl⟩

theorem reads_31 : Reads (H := H) enc W base spare held 31 (fun x cs => k31.K W x cs) GoodE := by
  intro fuel cs x h hw
  obtain ⟨xs, n, _, rfl, hcl, hxl, hf⟩ := DataW.trod_struct Try.underlying31 h
  obtain ⟨c0, c1, c2, c3, c4, rfl⟩ := five (hcl.trans (by kernel_rfl))
  obtain ⟨y0, y1, y2, y3, y4, rfl⟩ := five (l := xs) hxl
  have hC3 : Try.prog.cellsOf 3 = 1 := by kernel_rfl
  have f0 := hf 0 _ rfl
  have f1 := hf 1 _ rfl
  have f2 := hf 2 _ rfl
  have f3 := hf 3 _ rfl
  have f4 := hf 4 _ rfl
  simp only [List.getElem?_cons_zero, List.getElem?_cons_succ] at f0 f1 f2 f3 f4
  simp only [DataW.weights, Try.underlying31, List.map_cons, List.map_nil, DataW.weightsEach, List.append_nil, List.mem_append] at hw
  obtain ⟨a0, e0, w0⟩ := reads_int Try.underlying27 _ _ _ f0 (fun n hn => hw n (.inl hn))
  obtain ⟨a1, e1, w1⟩ := reads_int Try.underlying27 _ _ _ f1 (fun n hn => hw n (.inr (.inl hn)))
  obtain ⟨a2, e2, w2⟩ := reads_int Try.underlying5 _ _ _ f2 (fun n hn => hw n (.inr (.inr (.inl hn))))
  obtain ⟨a3, e3, w3⟩ := reads_string Try.underlying9 _ _ _ f3 (fun n hn => hw n (.inr (.inr (.inr (.inl hn)))))
  obtain ⟨a4, ⟨A4, d4, e4, l4, g4⟩, w4, _⟩ := reads_slice (Kd.int .i64) (B := 8) Try.underlying28 hC3 (by kernel_rfl) (reads_int Try.underlying3) _ _ _ f4 (fun n hn => hw n (.inr (.inr (.inr (.inr hn)))))
  injection e0 with e0 _
  injection e1 with e1 _
  injection e2 with e2 _
  injection e3 with e3 _
  injection e4 with e4 _
  subst e0 e1 e2 e3 e4
  have hr : reachBytes = 140737488351232 := rfl
  exact ⟨⟨a0, a1, a2, a3, a4⟩, k31_mk W ⟨a0, a1, a2, a3, a4⟩ l4 g4, by rw [hr] at w3; exact w3, by show a4.length ≤ 140737488351232; omega⟩

def GoodS (s : S45) : Prop := 0 ≤ s.f1 ∧ s.f1 ≤ 18446744073709551615 ∧ ∀ e, e ∈ s.f3 → GoodE e
theorem reads_45 : Reads (H := H) enc W base spare held 45 (fun x cs => k45.K W x cs) GoodS := by
  intro fuel cs x h hw
  obtain ⟨xs, n, _, rfl, hcl, hxl, hf⟩ := DataW.trod_struct Try.underlying45 h
  obtain ⟨c0, c1, c2, c3, c4, rfl⟩ := five (hcl.trans (by kernel_rfl))
  obtain ⟨y0, y1, y2, y3, y4, rfl⟩ := five (l := xs) hxl
  have f0 := hf 0 _ rfl
  have f1 := hf 1 _ rfl
  have f2 := hf 2 _ rfl
  have f3 := hf 3 _ rfl
  have f4 := hf 4 _ rfl
  simp only [List.getElem?_cons_zero, List.getElem?_cons_succ] at f0 f1 f2 f3 f4
  simp only [DataW.weights, Try.underlying45, List.map_cons, List.map_nil, DataW.weightsEach, List.append_nil, List.mem_append] at hw
  obtain ⟨a0, e0, w0⟩ := reads_int Try.underlying3 _ _ _ f0 (fun n hn => hw n (.inl hn))
  obtain ⟨a1, e1, w1⟩ := reads_int Try.underlying27 _ _ _ f1 (fun n hn => hw n (.inr (.inl hn)))
  obtain ⟨a2, e2, w2⟩ := reads_int Try.underlying27 _ _ _ f2 (fun n hn => hw n (.inr (.inr (.inl hn))))
  obtain ⟨a3, ⟨A3, d3, e3, l3, g3⟩, _, w3⟩ := reads_slice k31 (B := 64) Try.underlying33 (by kernel_rfl) (by kernel_rfl) reads_31 _ _ _ f3 (fun n hn => hw n (.inr (.inr (.inr (.inl hn)))))
  obtain ⟨a4, e4, w4⟩ := reads_int Try.underlying3 _ _ _ f4 (fun n hn => hw n (.inr (.inr (.inr (.inr hn)))))
  injection e0 with e0 _
  injection e1 with e1 _
  injection e2 with e2 _
  injection e3 with e3 _
  injection e4 with e4 _
  subst e0 e1 e2 e3 e4
  exact ⟨⟨a0, a1, a2, a3, a4⟩, k45_mk W ⟨a0, a1, a2, a3, a4⟩ l3 g3, (u64_of w1).1, (u64_of w1).2, w3⟩

/-- An argument that is a row of entries. -/
theorem open_33 {v : Value} {D : DataW H} {ps : List MemPlace} (h : DataW.Trod enc Try.prog W base spare held 33 v D ps) (hw : ∀ n, n ∈ D.weights Try.prog 33 → n ≤ reachBytes) (hv : v.cells.toList = [v]) :
    ∃ (es : List S31) (A : Option Addr) (c : Nat), v = .slice A es.length c ∧ es.length ≤ c ∧ Kd.C k31 W A es.length es ∧ ∀ e, e ∈ es → GoodE e := by
  obtain ⟨fuel, hf⟩ := h
  obtain ⟨es, ⟨A, c, e1, h1, h2⟩, _, h3⟩ := reads_slice k31 (B := 64) Try.underlying33 (by kernel_rfl) (by kernel_rfl) reads_31 _ _ _ hf hw
  rw [hv] at e1
  injection e1 with e1 _
  exact ⟨es, A, c, e1, h1, h2, h3⟩
theorem open_41 {v : Value} {D : DataW H} {ps : List MemPlace} (h : DataW.Trod enc Try.prog W base spare held 41 v D ps) (hw : ∀ n, n ∈ D.weights Try.prog 41 → n ≤ reachBytes) (hv : v.cells.toList = [v]) :
    ∃ (es : List S45) (A : Option Addr) (c : Nat), v = .slice A es.length c ∧ es.length ≤ c ∧ Kd.C k45 W A es.length es ∧ ∀ e, e ∈ es → GoodS e := by
  obtain ⟨fuel, hf⟩ := h
  obtain ⟨es, ⟨A, c, e1, h1, h2⟩, _, h3⟩ := reads_slice k45 (B := 56) Try.underlying41 (by kernel_rfl) (by kernel_rfl) reads_45 _ _ _ hf hw
  rw [hv] at e1
  injection e1 with e1 _
  exact ⟨es, A, c, e1, h1, h2, h3⟩
end
end Go.Proofs.Ytpnmodkddiljeaa
