/- What is kept, in one word: all but the blocks of a set and what is new; small words over the printed ones, for layer 26. No conditions. -/
import Derived.Test.YtpnmodkddiljeaaRows
import Derived.Test.YtpnmodkddiljeaaPEntryPlaysx
import Derived.Test.YtpnmodkddiljeaaGrow
import Derived.WalkKit
import Derived.WalkSpells
import Derived.WalkLawsBesides
import Derived.Deep.QuietTactic
import Derived.BigQuiet
import Derived.IntWalk
import Derived.Deep.RegionHeld3
import Derived.Lib.Hide
namespace Go.Proofs.Ytpnmodkddiljeaa
open Go.RowKit Go.Proofs.YtpnmodkddiljeaaW.PrintWords PEntryPlays

/-- All but the blocks of S is kept; the streams too. -/
structure Fr (w w' : World) (S : Nat → Prop) : Prop where
  os : w'.os = w.os
  tape : w'.tape = w.tape
  output : w'.output = w.output
  size : w.heap.size ≤ w'.heap.size
  block : ∀ k, k < w.heap.size → ¬ S k → w'.heap[k]? = w.heap[k]?

namespace Fr
variable {w w1 w2 : World} {S S1 S2 : Nat → Prop}
theorem refl (w : World) (S : Nat → Prop) : Fr w w S := ⟨rfl, rfl, rfl, Nat.le_refl _, fun _ _ _ => rfl⟩
theorem trans (h : Fr w w1 S) (k : Fr w1 w2 S1) (hs : ∀ i, S1 i → S i ∨ w.heap.size ≤ i) : Fr w w2 S :=
  ⟨k.os.trans h.os, k.tape.trans h.tape, k.output.trans h.output, Nat.le_trans h.size k.size, fun i hi hn =>
    (k.block i (Nat.lt_of_lt_of_le hi h.size) (fun h1 => (hs i h1).elim hn (fun h2 => by omega))).trans (h.block i hi hn)⟩
theorem mono (h : Fr w w1 S) (hs : ∀ i, i < w.heap.size → S i → S1 i) : Fr w w1 S1 := ⟨h.os, h.tape, h.output, h.size, fun i hi hn => h.block i hi (fun h1 => hn (hs i hi h1))⟩
theorem of_below (h : Below w.heap.size w w1) (S : Nat → Prop) : Fr w w1 S := ⟨h.os, h.tape, h.output, h.size, fun i hi _ => h.block i hi⟩
theorem of_grown {row : Option Nat} (h : w.grownBy w1 row) : Fr w w1 (fun k => some k = row) := ⟨h.os, h.tape, h.output, h.size, fun i hi hn => h.block i hi hn⟩
theorem of_drawn (h : Drawn0 w w1) (S : Nat → Prop) : Fr w w1 S := of_below h.below S
theorem below (h : Fr w w1 S) (hs : ∀ k, S k → w.heap.size ≤ k) : Below w.heap.size w w1 := ⟨h.os, h.tape, h.output, h.size, fun k hk => h.block k hk (fun h1 => by have := hs k h1; omega)⟩
theorem belowB {B : Nat} (h : Fr w w1 S) (hB : B ≤ w.heap.size) (hs : ∀ k, S k → B ≤ k) : Below B w w1 := ⟨h.os, h.tape, h.output, h.size, fun k hk => h.block k (by omega) (fun h1 => by have := hs k h1; omega)⟩
theorem kept (h : Fr w w1 S) : Kept w w1 S := ⟨h.size, h.block⟩
theorem then_below (h : Fr w w1 S) (k : Below w1.heap.size w1 w2) : Fr w w2 S := h.trans (of_below k (fun _ => False)) (fun _ h => h.elim)
theorem then_grown {row : Option Nat} (h : Fr w w1 S) (k : w1.grownBy w2 row) (hs : ∀ i, row = some i → S i ∨ w.heap.size ≤ i) : Fr w w2 S := h.trans (of_grown k) (fun i hi => hs i hi.symm)
theorem alloc (h : Fr w w1 S) (o : Obj) : Fr w (w1.alloc o) S := h.then_below (below_alloc (Below.refl _ _) o)
theorem drew (h : Fr w w1 S) : Fr w w1.drew S := h.then_below (below_drew (Below.refl _ _))
theorem drewN (h : Fr w w1 S) (n : Nat) : Fr w (w1.drewN n) S := h.then_below (pw_below_drewN (Below.refl _ _) n)
theorem setCell (h : Fr w w1 S) {p : Addr} (hp : S p.block ∨ w.heap.size ≤ p.block) (u : Value) : Fr w (w1.setCell p u) S :=
  h.trans (S1 := fun k => k = p.block) ⟨rfl, rfl, rfl, by simp [World.setCell], fun i _ hn => Below.heap_setCell w1 p u i hn⟩ (fun i hi => by rw [hi]; exact hp)
theorem cell (h : Fr w w1 S) {p : Addr} (hp : ¬ S p.block) {v : Value} (hc : w.cell? p = some v) : w1.cell? p = some v :=
  (World.cell?_of_block (h.block _ (World.block_lt_of_cell? w p hc) hp)).trans hc
theorem blk (h : Fr w w1 S) {g : Nat} {o : Obj} (hg : ¬ S g) (hb : w.heap[g]? = some o) : w1.heap[g]? = some o := (h.block g (blk_lt hb) hg).trans hb
end Fr

theorem G_fr {α : Type} {d : Kd α} {e : Nat} {w w1 : World} {ok S : Nat → Prop} {v : Value} {xs : List α} (h : G d e w ok v xs) (hf : Fr w w1 S) (hs : ∀ k, ok k → ¬ S k) : G d e w1 ok v xs := G_step h (fun k hk hl => hf.block k hl (hs k hk))
theorem F_fr {α : Type} {d : Kd α} {n : Nat} {w w1 : World} {ok S : Nat → Prop} {A : Option Addr} {xs : List α} (h : Kd.F d w ok A n xs) (hf : Fr w w1 S) (hs : ∀ k, ok k → ¬ S k) : Kd.F d w1 ok A n xs := Kd.F_step h (fun k hk hl => hf.block k hl (hs k hk))

theorem int_info : (Try.prog.info? 3).map (fun i => (i.zero, i.size, i.bytes)) = some (some (.int .i64 0), 1, 8) := by kernel_rfl
theorem ent_info : (Try.prog.info? 31).map (fun i => (i.zero, i.size, i.bytes)) = some (some (.agg #[.int .u64 0, .int .u64 0, .int .u8 0, .string ⟨#[]⟩, .slice none 0 0]), 5, 64) := by kernel_rfl

set_option maxHeartbeats 400000 in
theorem clone_int (A : Option Addr) (c : Nat) (xs : List Int) (w : World) (hr : Kd.C (Kd.int .i64) w A xs.length xs) (hl : xs.length * 8 ≤ 140737488355328) :
    Calls Try.prog 35 #[.slice A xs.length c] w fun e w' => ∃ v, e = .returned v ∧ G (Kd.int .i64) 3 w' (fun k => w.heap.size ≤ k) v xs ∧ Below w.heap.size w w' := by
  by_cases hA : A = none
  · subst hA
    have kq := fun w n c => Lib.run_eql_slice_nil (P := Try.prog) w 28 3 none n c 0 0 Try.underlying28
    have hx : xs = [] := by
      by_cases h : 0 < xs.length
      · obtain ⟨_, h1, _⟩ := hr.2.2 h
        cases h1
      · exact List.eq_nil_of_length_eq_zero (by omega)
    subst hx
    go_enter Try.func35, Try.ntmps35
    go_wp2
    go_ret
    exact ⟨_, rfl, G_nil _ _ _ _, Below.refl _ _⟩
  · obtain ⟨ad, rfl⟩ := Option.ne_none_iff_exists'.1 hA
    have kq := fun w => Lib.run_eql_slice_nil (P := Try.prog) w 28 3 (some ad) xs.length c 0 0 Try.underlying28
    have H := Lib.hid (Kd.C_F (Kd.heap_int .i64) hr)
    clear hr
    have HN := Lib.hid (G_fresh (Kd.int .i64) 3 w (fun _ => True) trivial)
    go_enter Try.func35, Try.ntmps35
    go_wp2_with ((at_builtin; refine G_append_rows (Kd.int .i64) rfl (.tmp 5) (.tmp 6) 28 3 (.int .i64 0) 8 rfl Try.underlying28 int_info rfl (by decide) (.slice (some ⟨w.heap.size, 0, none⟩) 0 0) [] xs (some ad) xs.length c (fun _ => True) (fun k => k < w.heap.size) rfl rfl HN.out (Kd.F_alloc H.out _) (fun k hk => ⟨trivial, by simp [Value.ownBlock]; omega⟩) (fun _ _ => trivial) (by simpa using hl) ?_; intro v1 w1 hN hg hat _))
    go_ret
    refine ⟨v1, rfl, G_int hN (fun i hi => ?_), ((Below.refl _ _).alloc (Nat.le_refl _) _).grown hg (by simp) (fun k hk => by simp [Value.ownBlock] at hk; omega)⟩
    rcases hat with h | ⟨b, h, hb⟩
    · rw [h] at hi; simp [Value.ownBlock] at hi; omega
    · rw [h] at hi; injection hi with hi; simp at hb; omega
end Go.Proofs.Ytpnmodkddiljeaa
