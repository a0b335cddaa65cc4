/- slices.Clone of entries, entry.own: what they hand back is a copy of one's own. No conditions but sizes. -/
import Derived.Test.YtpnmodkddiljeaaBase
namespace Go.Proofs.Ytpnmodkddiljeaa
open Go.RowKit Go.Proofs.YtpnmodkddiljeaaW.PrintWords PEntryPlays

abbrev entV (x : S31) (v : Value) : Value := .agg #[.int .u64 x.f0, .int .u64 x.f1, .int .u8 x.f2, .string x.f3, v]

set_option maxHeartbeats 400000 in
theorem clone_ent (A : Option Addr) (c : Nat) (xs : List S31) (w : World) (ok : Nat → Prop) (hr : Kd.F k31 w ok A xs.length xs) (hl : xs.length * 64 ≤ 140737488355328) :
    Calls Try.prog 41 #[.slice A xs.length c] w fun e w' => ∃ v, e = .returned v ∧ G k31 31 w' (fun k => (ok k ∧ k < w.heap.size) ∨ w.heap.size ≤ k) v xs ∧ (∀ k, v.ownBlock = some k → w.heap.size ≤ k) ∧ Below w.heap.size w w' := by
  by_cases hA : A = none
  · subst hA
    have kq := fun w n c => Lib.run_eql_slice_nil (P := Try.prog) w 33 31 none n c 0 0 Try.underlying33
    have hx : xs = [] := by
      by_cases h : 0 < xs.length
      · obtain ⟨_, h1, _⟩ := (Kd.F_now hr).2.2 h
        cases h1
      · exact List.eq_nil_of_length_eq_zero (by omega)
    subst hx
    go_enter Try.func41, Try.ntmps41
    go_wp2
    go_ret
    exact ⟨_, rfl, G_nil _ _ _ _, fun k hk => by simp [Value.ownBlock] at hk, Below.refl _ _⟩
  · obtain ⟨ad, rfl⟩ := Option.ne_none_iff_exists'.1 hA
    have kq := fun w => Lib.run_eql_slice_nil (P := Try.prog) w 33 31 (some ad) xs.length c 0 0 Try.underlying33
    have H := Lib.hid (Kd.F_bound hr)
    clear hr
    have HN := Lib.hid (G_fresh k31 31 w (fun k => (ok k ∧ k < w.heap.size) ∨ w.heap.size ≤ k) (.inr (Nat.le_refl _)))
    go_enter Try.func41, Try.ntmps41
    go_wp2_with ((at_builtin; refine G_append_rows k31 rfl (.tmp 5) (.tmp 6) 33 31 _ 64 rfl Try.underlying33 ent_info rfl (by decide) (.slice (some ⟨w.heap.size, 0, none⟩) 0 0) [] xs (some ad) xs.length c (fun k => (ok k ∧ k < w.heap.size) ∨ w.heap.size ≤ k) (fun k => ok k ∧ k < w.heap.size) rfl rfl HN.out (Kd.F_alloc H.out _) (fun k hk => ⟨.inl hk, by simp [Value.ownBlock]; omega⟩) (fun k hk => .inr (by simp at hk; omega)) (by simpa using hl) ?_; intro v1 w1 hN hg hat _))
    go_ret
    refine ⟨v1, rfl, hN, fun i hi => ?_, ((Below.refl _ _).alloc (Nat.le_refl _) _).grown hg (by simp) (fun k hk => by simp [Value.ownBlock] at hk; omega)⟩
    rcases hat with h | ⟨b, h, hb⟩
    · rw [h] at hi; simp [Value.ownBlock] at hi; omega
    · rw [h] at hi; injection hi with hi; simp at hb; omega

set_option maxHeartbeats 400000 in
theorem own_any (x : S31) (A : Option Addr) (c : Nat) (w : World) (hr : Kd.C (Kd.int .i64) w A x.f4.length x.f4) (hl : x.f4.length * 8 ≤ 140737488355328) :
    Calls Try.prog 38 #[entV x (.slice A x.f4.length c)] w fun e w' => ∃ v, e = .returned (entV x v) ∧ G (Kd.int .i64) 3 w' (fun k => w.heap.size ≤ k) v x.f4 ∧ Below w.heap.size w w' := by
  have H := Lib.hid hr
  clear hr
  obtain ⟨x0, x1, x2, x3, x4⟩ := x
  dsimp only [entV] at *
  go_enter Try.func38, Try.ntmps38
  go_wp2_with fail
  refine (clone_int A c x4 _ (Kd.C_alloc (Kd.C_alloc H.out _) _) hl).mono ?_
  rintro e w' ⟨v, rfl, hv, hb⟩
  obtain ⟨A', c', rfl, hc'⟩ := G_slice hv
  have hk1 : w'.heap[w.heap.size]? = some (.cells #[.int .u64 x0, .int .u64 x1, .int .u8 x2, .string x3, .slice A x4.length c] 31 (0, 0)) := blk_below (blk_alloc (blk_new w _) _) hb
  have hk2 : w'.heap[w.heap.size + 1]? = some (.cells #[.int .u64 0, .int .u64 0, .int .u8 0, .string ⟨#[]⟩, .slice none 0 0] 31 (0, 0)) := blk_below (by have := blk_new (w.alloc (.cells #[.int .u64 x0, .int .u64 x1, .int .u8 x2, .string x3, .slice A x4.length c] 31)) (.cells #[.int .u64 0, .int .u64 0, .int .u8 0, .string ⟨#[]⟩, .slice none 0 0] 31); rwa [World.size_alloc] at this) hb
  have c1 := blk_cell hk1
  have f1 := blk_frozen hk1
  have c2 := blk_cell hk2
  have f2 := blk_frozen hk2
  have HB := Lib.hid hb
  have HV := Lib.hid hv
  have K2 := Lib.hid hk2
  clear hb hv hk1 hk2
  go_wp2
  refine bodyPost_ret (results_cell_row rfl _ _ (w.heap.size + 1) 31 #[.int .u64 x0, .int .u64 x1, .int .u8 x2, .string x3, .slice A' x4.length c'] (0, 0) _ rfl ?_ Try.underlying31 rfl (by kernel_rfl)) rfl ⟨_, rfl, ?_, ?_⟩
  · have h := blk_set (blk_set (blk_set (blk_set (blk_set (blk_far K2.out (p := ⟨w.heap.size, 4, none⟩) (by simp) (.slice A' x4.length c')) 0 (.int .u64 x0)) 1 (.int .u64 x1)) 2 (.int .u8 x2)) 3 (.string x3)) 4 (.slice A' x4.length c')
    simpa using h
  · refine G_mono ?_ (fun k hk => Nat.le_trans (Nat.le_add_right _ 2) hk)
    repeat (refine G_set ?_ (by simp) _)
    simpa using HV.out
  · repeat (refine Below.setCell ?_ (by simp) _)
    exact (((Below.refl _ w).alloc (Nat.le_refl _) _).alloc (by simp) _).trans (HB.out.mono (by simp; omega))
end Go.Proofs.Ytpnmodkddiljeaa
