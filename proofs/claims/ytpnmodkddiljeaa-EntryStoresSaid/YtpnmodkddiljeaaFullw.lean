/- EntryFull: the walk. Conditions: the arguments lie in their types. -/
import Derived.Test.YtpnmodkddiljeaaFull
namespace Go.Proofs.Ytpnmodkddiljeaa
open Go.RowKit Go.Proofs.YtpnmodkddiljeaaW.PrintWords Go.Proofs.YtpnmodkddiljeaaW.PrintLast PEntryPlays Go.Shelf

/-- A log and a row of entries, both the call's own, apart from each other. -/
def Duo (g : Nat) (w0 w : World) (st : LS) (ve : Value) (es : List S31) : Prop :=
  LSok st ∧ w0.heap.size ≤ g ∧ Below w0.heap.size w0 w ∧ ∃ (ok oke : Nat → Prop) (lv : Value), IsL 70 g w ok lv st ∧ (∀ k, ok k → w0.heap.size ≤ k) ∧ G k31 31 w oke ve es ∧ (∀ k, oke k → w0.heap.size ≤ k) ∧ (∀ k, ok k → ¬ oke k) ∧ ¬ oke g
theorem Duo.below {g : Nat} {w0 w w' : World} {st : LS} {ve : Value} {es : List S31} (h : Duo g w0 w st ve es) (hb : Below w.heap.size w w') : Duo g w0 w' st ve es := by
  obtain ⟨h1, h2, h3, ok, oke, lv, h4, h5, h6, h7, h8, h9⟩ := h
  exact ⟨h1, h2, below_then h3 h3.size hb, ok, oke, lv, h4.below hb, h5, G_below h6 hb, h7, h8, h9⟩
theorem Duo.left {g : Nat} {w0 w w' : World} {st' : LS} {ve : Value} {es : List S31} {ok oke : Nat → Prop} {lv : Value} (h2 : w0.heap.size ≤ g) (h3 : Below w0.heap.size w0 w) (h4 : ∀ k, lv.ownBlock = some k → ok k) (h5 : ∀ k, ok k → w0.heap.size ≤ k)
    (h6 : G k31 31 w oke ve es) (h7 : ∀ k, oke k → w0.heap.size ≤ k) (h8 : ∀ k, ok k → ¬ oke k) (h9 : ¬ oke g) (hok : LSok st') (h : Left 70 g w ok lv st' w') : Duo g w0 w' st' ve es := by
  obtain ⟨lv', h1, hf, _⟩ := h
  have hs := h3.size
  refine ⟨hok, h2, ?_, fun k => ok k ∨ w.heap.size ≤ k, fun k => oke k ∧ k < w.heap.size, lv', h1, fun k hk => hk.elim (h5 k) (fun h => by omega), ?_, fun k hk => h7 k hk.1, fun k hk he => ?_, fun h => h9 h.1⟩
  · exact (((Fr.of_below h3 (fun _ => False)).trans hf (fun i hi => .inr (by rcases hi with hi | hi; omega; exact h5 i (h4 i hi.symm)))).below (fun _ h => h.elim))
  · refine G_fr (G_bound h6) hf (fun k hk he => ?_)
    rcases he with he | he
    · exact h9 (he ▸ hk.1)
    · exact h8 k (h4 k he.symm) hk.1
  · rcases hk with hk | hk
    · exact h8 k hk he.1
    · have := he.2; omega
theorem duo_append {g : Nat} {w0 w : World} {st : LS} {ve : Value} {es : List S31} (h : Duo g w0 w st ve es) (x : S31) (cv : Value) {okx : Nat → Prop} (hr : RV (Kd.int .i64) w okx cv x.f4) :
    Calls Try.prog 9 #[.pointer (some ⟨g, 0, none⟩), entV x cv] w fun e w' => e = .returned (.int .i64 (st.append x).2) ∧ Duo g w0 w' (st.append x).1 ve es := by
  obtain ⟨h1, h2, h3, ok, oke, lv, h4, h5, h6, h7, h8, h9⟩ := h
  exact (append_any h4 h1 x cv hr).mono fun e w' ⟨a, b⟩ => ⟨a, Duo.left h2 h3 (fun k hk => (h4.own k hk).1) h5 h6 h7 h8 h9 (h1.append x) b⟩
theorem duo_compact {g : Nat} {w0 w : World} {st : LS} {ve : Value} {es : List S31} (h : Duo g w0 w st ve es) (i : Int) :
    Calls Try.prog 12 #[.pointer (some ⟨g, 0, none⟩), .int .u64 i] w fun e w' => e = .returned (.int .i64 (st.compact i).2) ∧ Duo g w0 w' (st.compact i).1 ve es := by
  obtain ⟨h1, h2, h3, ok, oke, lv, h4, h5, h6, h7, h8, h9⟩ := h
  exact (compact_any h4 h1 i).mono fun e w' ⟨a, b⟩ => ⟨a, Duo.left h2 h3 (fun k hk => (h4.own k hk).1) h5 h6 h7 h8 h9 (h1.compact i) b⟩
theorem duo_store {g : Nat} {w0 w : World} {st : LS} {ve : Value} {es : List S31} (h : Duo g w0 w st ve es) (i t : Int) (hi : 0 ≤ i) (hl : es.length ≤ 4096) (h7' : ∀ e, e ∈ es → e.f4.length ≤ 4096) :
    Calls Try.prog 11 #[.pointer (some ⟨g, 0, none⟩), .int .u64 i, .int .u64 t, ve] w fun e w' => ∃ v, e = .returned (.tuple #[.int .u64 (st.store i t es).at_, v, .int .i64 (st.store i t es).e]) ∧
      Duo g w0 w' (st.store i t es).st ve es ∧ G k31 31 w' (fun k => w.heap.size ≤ k ∧ k ≠ g) v (st.store i t es).put := by
  obtain ⟨h1, h2, h3, ok, oke, lv, h4, h5, h6, h7, h8, h9⟩ := h
  exact (store_any h4 h1 i t hi es h6 h9 hl h7').mono fun e w' ⟨v, a, b, c⟩ => ⟨v, a, Duo.left h2 h3 (fun k hk => (h4.own k hk).1) h5 h6 h7 h8 h9 (h1.store hi es) b, c⟩
theorem duo_last {g : Nat} {w0 w : World} {st : LS} {ve : Value} {es : List S31} (h : Duo g w0 w st ve es) : Calls Try.prog 14 #[.pointer (some ⟨g, 0, none⟩)] w fun e w' => e = .returned (.tuple #[.int .u64 st.last.1, .int .u64 st.last.2]) ∧ Duo g w0 w' st ve es := by
  obtain ⟨h1, h2, h3, ok, oke, lv, h4, h5, h6, h7, h8, h9⟩ := h
  exact (last_any h4 h1.len).mono fun e w' ⟨a, b⟩ => ⟨a, Duo.below ⟨h1, h2, h3, ok, oke, lv, h4, h5, h6, h7, h8, h9⟩ b⟩
theorem Duo.of_live {g : Nat} {w0 w : World} {st : LS} (h : Live g w0 w st) : Duo g w0 w st (.slice none 0 0) [] := by
  obtain ⟨h1, h2, h3, lv, h4⟩ := h
  exact ⟨h1, h2, h3, _, fun _ => False, lv, h4, fun k hk => hk, G_nil _ _ _ _, fun k h => h.elim, fun _ _ h => h, fun h => h⟩
/-- The row of entries has grown. -/
theorem Duo.grown {g : Nat} {w0 w w1 : World} {st : LS} {ve v1 : Value} {es' : List S31} {ok oke : Nat → Prop} {lv : Value} (h1 : LSok st) (h2 : w0.heap.size ≤ g) (h3 : Below w0.heap.size w0 w) (h4 : IsL 70 g w ok lv st) (h5 : ∀ k, ok k → w0.heap.size ≤ k) (h6 : ∀ k, ve.ownBlock = some k → oke k) (h7 : ∀ k, oke k → w0.heap.size ≤ k) (h8 : ∀ k, ok k → ¬ oke k) (h9 : ¬ oke g)
    (hG : G k31 31 w1 (fun k => (oke k ∧ k < w.heap.size) ∨ w.heap.size ≤ k) v1 es') (hg : w.grownBy w1 ve.ownBlock) : Duo g w0 w1 st v1 es' := by
  have hs := h3.size
  have hgl := h4.lt
  refine ⟨h1, h2, ?_, fun k => ok k ∧ k < w.heap.size, _, lv, ?_, fun k hk => h5 k hk.1, hG, fun k hk => by rcases hk with hk | hk; exact h7 k hk.1; omega, fun k hk he => ?_, fun he => ?_⟩
  · exact (((Fr.of_below h3 (fun _ => False)).then_grown hg (fun i hi => .inr (h7 i (h6 i hi)))).below (fun _ h => h.elim))
  · refine h4.bound.step (hg.block g hgl (fun he => h9 (h6 g he.symm))) (fun k hk hkl => hg.block k hkl (fun he => h8 k hk.1 (h6 k he.symm)))
  · rcases he with he | he
    · exact h8 k hk.1 he.1
    · have := hk.2; omega
  · rcases he with he | he
    · exact h9 he.1
    · omega

set_option maxHeartbeats 2000000 in
set_option maxRecDepth 100000 in
theorem full_any (at_ n : Int) (ha : 0 ≤ at_) (ha2 : at_ ≤ 65535) (hn : 0 ≤ n) (hn2 : n ≤ 255) (w : World) : Calls Try.prog 3 #[.int .u16 at_, .int .u8 n] w fun e w' => e = .returned (.bool true) ∧ Below w.heap.size w w' := by
  obtain ⟨N, hN⟩ : ∃ N : Nat, Int.tmod n 50 = N := ⟨(Int.tmod n 50).toNat, by have := Int.tmod_nonneg 50 hn; omega⟩
  have hN2 : N ≤ 49 := by have := Int.tmod_lt_of_pos n (show (0 : Int) < 50 by decide); omega
  obtain ⟨M, hM⟩ : ∃ M : Nat, Int.tmod at_ 4096 = M := ⟨(Int.tmod at_ 4096).toNat, by have := Int.tmod_nonneg 4096 ha; omega⟩
  have hM2 : M ≤ 4095 := by have := Int.tmod_lt_of_pos at_ (show (0 : Int) < 4096 by decide); omega
  have qa : IntKind.u64.wrap at_ = at_ := IntWalk.u64_in _ (by omega)
  have qM : IntKind.u64.wrap (M : Int) = M := IntWalk.u64_in _ (by omega)
  have qM1 : IntKind.u64.wrap ((M : Int) + 1) = (M : Int) + 1 := IntWalk.u64_in _ (by omega)
  have qN1 : IntKind.u64.wrap ((N : Int) + 1) = (N : Int) + 1 := IntWalk.u64_in _ (by omega)
  have qN4 : IntKind.u64.wrap (4096 + ((N : Int) + 1)) = 4096 + ((N : Int) + 1) := IntWalk.u64_in _ (by omega)
  have qn : IntKind.i64.wrap n = n := IntWalk.i64_in _ (by omega)
  have qN : IntKind.i64.wrap (N : Int) = N := IntWalk.i64_in _ (by omega)
  go_enter Try.func3, Try.ntmps3
  go_wp2_with fail
  refine (live_new 0 0 [1, 2, 3] (RV_lit w [1, 2, 3] (by decide)) (by kernel_rfl)).mono ?_
  rintro e w1 ⟨g, rfl, hL⟩
  have hL0 := hL (Int.le_refl _)
  have HL := Lib.hid (show Live g w w1 (stF 0) from by
    obtain ⟨h1, h2, h3, lv, h4⟩ := hL0
    exact ⟨h1, by simp at h2; omega, below_then (below_alloc (Below.refl _ _) _) (by simp) h3, lv, h4.mono (fun k hk => by simp at hk; omega)⟩)
  clear hL hL0
  go_wp2_with fail
  go_loopw [7] (fun i wr => ∃ k : Nat, k ≤ 4096 ∧ i = .int .u64 ((k : Int) + 1) ∧ Live g w wr (stF k)) (fun i _ => 4097 - (intOf i).toNat)
  case atStart => exact ⟨0, by omega, rfl, HL.out⟩
  case round =>
    obtain ⟨k, hk, rfl, hLk⟩ := hrel
    have HLk := Lib.hid hLk
    clear hLk HL
    by_cases hlt : k < 4096
    · have q1 : IntKind.u64.wrap ((k : Int) + 1 + 1) = (k : Int) + 1 + 1 := IntWalk.u64_in _ (by omega)
      have p1 : (k : Int) + 1 ≤ 4096 := by omega
      go_wp2_with fail
      refine (noop_any _ 1 wr).mono ?_
      rintro e w2 ⟨A2, c2, rfl, hb⟩
      have HL2 := Lib.hid (HLk.out.below hb)
      clear hb
      go_wp2_with fail
      refine (live_append HL2.out (noopE ((k : Int) + 1) 1) (.slice A2 0 c2) (RV_empty _ _ (fun _ => True) A2 c2)).mono ?_
      rw [stF_append k hlt]
      rintro e w3 ⟨rfl, h3⟩
      have HL3 := Lib.hid h3
      clear h3
      go_wp2_with fail
      exact ⟨⟨k + 1, by omega, by simp, HL3.out⟩, by simp [intOf]; omega⟩
    · have hk' : k = 4096 := by omega
      have HD := Lib.hid (Duo.of_live (stC_zero k hk' ▸ HLk.out))
      subst hk'
      clear HLk hlt hk
      rw [show ((4096 : Nat) : Int) + 1 = 4097 from rfl]
      go_wp2_with fail
      go_loopw [8, 9] (fun v i wr => ∃ k : Nat, k ≤ N + 1 ∧ i = .int .i64 k ∧ Duo g w wr (stC 0) v (noops 4096 k)) (fun _ i _ => N + 1 - (intOf i).toNat)
      case atStart => exact ⟨0, by omega, rfl, HD.out⟩
      case round =>
        obtain ⟨k, hk, rfl, hDk⟩ := hrel
        have HDk := Lib.hid hDk
        clear hDk HD
        by_cases hlt : k < N + 1
        · have q1 : IntKind.u64.wrap (k : Int) = k := IntWalk.u64_in _ (by omega)
          have q2 : IntKind.u64.wrap (4096 + (k : Int)) = 4096 + (k : Int) := IntWalk.u64_in _ (by omega)
          have q3 : IntKind.u64.wrap (4096 + (k : Int) + 1) = 4096 + (k : Int) + 1 := IntWalk.u64_in _ (by omega)
          have q4 : IntKind.i64.wrap ((k : Int) + 1) = (k + 1 : Nat) := IntWalk.i64_in _ (by omega)
          have p1 : (k : Int) ≤ N := by omega
          have p2 : k ≤ N := by omega
          have hnl := noops_len 4096 k
          obtain ⟨Av, cv, hve, _⟩ : ∃ Av cv, u8 = .slice Av k cv ∧ k ≤ cv := by
            obtain ⟨_, _, _, _, _, _, _, _, h6, _⟩ := HDk.out
            obtain ⟨A, c, h, hc⟩ := G_slice h6
            rw [hnl] at h hc
            exact ⟨A, c, h, hc⟩
          subst hve
          go_wp2_with fail
          refine (noop_any _ 1 wr).mono ?_
          rintro e w3 ⟨A3, c3, rfl, hb⟩
          have HD3 := Lib.hid (HDk.out.below hb)
          clear hb HDk
          obtain ⟨h1, h2, h3, ok, oke, lv, h4, h5, h6, h7, h8, h9⟩ := HD3.out
          have HHs := Lib.hid (And.intro h1 (And.intro h2 (And.intro h3 (And.intro h4 (And.intro h5 (And.intro h6.1 (And.intro h7 (And.intro h8 h9))))))))
          have HG6 := Lib.hid h6
          have hl64 : ((noops 4096 k).length + 1) * 64 ≤ 140737488355328 := by rw [hnl]; omega
          have HNs := Lib.hid (noops_succ 4096 k)
          clear h1 h2 h3 h4 h5 h6 h7 h8 h9 hnl HD3
          go_wp2_with (at_builtin; refine G_append k31 rfl (.tmp 43) (.tmp 49) 33 31 _ 64 rfl Try.underlying33 ent_info rfl (by decide) (.slice Av k cv) (noops 4096 k) (noopE (4096 + (k : Int) + 1) 1) _ (fun b => (oke b ∧ b < w3.heap.size) ∨ w3.heap.size ≤ b) (fun _ => False) rfl rfl (k31_mkF w3 (fun _ => False) (noopE (4096 + (k : Int) + 1) 1) (A4 := A3) (c4 := c3) (Nat.zero_le _) (fun _ _ => ⟨rfl, by simp [noopE], fun h => absurd h (Nat.lt_irrefl 0)⟩)) (fun _ h => h.elim) (fun b hb => .inr hb) (G_mono (G_bound HG6.out) (fun b hb => .inl hb)) hl64 ?_; intro v4 w4 hG4 hg4 hat4 _)
          obtain ⟨h1, h2, h3, h4, h5, h6, h7, h8, h9⟩ := HHs.out
          exact ⟨⟨k + 1, by omega, by simp, HNs.out ▸ Duo.grown h1 h2 h3 h4 h5 h6 h7 h8 h9 hG4 hg4⟩, by simp [intOf]; omega⟩
        · obtain rfl : k = N + 1 := by omega
          have hl50 : (noops 4096 (N + 1)).length ≤ 4096 := by rw [noops_len]; omega
          have hf4 : ∀ e, e ∈ noops 4096 (N + 1) → e.f4.length ≤ 4096 := by
            intro e he
            obtain ⟨j, _, rfl⟩ := List.mem_map.1 he
            exact Nat.zero_le _
          have p2 : ¬ ((N + 1 : Nat) : Int) ≤ N := by omega
          obtain ⟨Av, cv, hve, _⟩ : ∃ Av cv, u8 = .slice Av (N + 1) cv ∧ N + 1 ≤ cv := by
            obtain ⟨_, _, _, _, _, _, _, _, h6, _⟩ := HDk.out
            obtain ⟨A, c, h, hc⟩ := G_slice h6
            rw [noops_len] at h hc
            exact ⟨A, c, h, hc⟩
          subst hve
          have HS0 := Lib.hid (stC_store 0 N (by omega) hN2)
          go_wp2_with fail
          refine (duo_store HDk.out 4096 1 (by decide) hl50 hf4).mono ?_
          rw [HS0.out, if_pos (by omega)]
          rintro e w3 ⟨v3, rfl, hD3, hG3⟩
          obtain ⟨A3, c3, rfl, _⟩ := G_slice hG3
          have HD3 := Lib.hid hD3
          clear hD3 hG3 HDk
          go_wp2_with fail
          refine (noop_any 4097 1 w3).mono ?_
          rintro e w4 ⟨A4, c4, rfl, hb⟩
          have HD4 := Lib.hid (HD3.out.below hb)
          clear hb HD3
          go_wp2_with fail
          refine (duo_append HD4.out (noopE 4097 1) (.slice A4 0 c4) (RV_empty _ _ (fun _ => True) A4 c4)).mono ?_
          rw [stC_full (noopE 4097 1) (noop_may (by decide) (by decide)) rfl rfl]
          rintro e w5 ⟨rfl, h5⟩
          have HD5 := Lib.hid h5
          clear h5 HD4
          go_wp2_with fail
          refine (duo_compact HD5.out _).mono ?_
          rw [show (M : Int) + 1 = ((M + 1 : Nat) : Int) from rfl, stC_compact (M + 1) (by omega) (by omega)]
          rintro e w6 ⟨rfl, h6⟩
          have HD6 := Lib.hid h6
          clear h6 HD5
          go_wp2_with fail
          refine (duo_store HD6.out 4096 1 (by decide) hl50 hf4).mono ?_
          have HS1 := Lib.hid (stC_store (M + 1) N (by omega) hN2)
          by_cases hfull : M + 1 < N + 1
          · rw [HS1.out, if_pos hfull]
            rintro e w7 ⟨v7, rfl, hD7, hG7⟩
            obtain ⟨A7, c7, rfl, _⟩ := G_slice hG7
            have HD7 := Lib.hid hD7
            clear hD7 hG7 HD6
            have p3 : (M : Int) + 1 < (N : Int) + 1 := by omega
            have p4 : (M : Int) < (N : Int) := by omega
            have p5 : M < N := by omega
            go_wp2_with fail
            refine (works_any _).mono ?_
            rintro e w8 ⟨rfl, hb⟩
            have HB8 := Lib.hid ((HD7.out.below hb).2.2.1)
            clear hb
            go_wp2_with fail
            go_ret
            exact ⟨rfl, HB8.out⟩
          · rw [HS1.out, if_neg hfull]
            rintro e w7 ⟨v7, rfl, hD7, hG7⟩
            obtain ⟨A7, c7, hv7, _⟩ := G_slice hG7
            rw [noops_len] at hv7
            subst hv7
            have HD7 := Lib.hid hD7
            clear hD7 hG7 HD6
            have p3 : ¬ (M : Int) + 1 < (N : Int) + 1 := by omega
            have p4 : ¬ (M : Int) < (N : Int) := by omega
            have p5 : ¬ M < N := by omega
            go_wp2_with fail
            refine (duo_last HD7.out).mono ?_
            rw [stC_after (M + 1) N _ rfl]
            rintro e w8 ⟨rfl, h8⟩
            have HD8 := Lib.hid h8
            clear h8 HD7
            go_wp2_with fail
            refine (works_any _).mono ?_
            rintro e w9 ⟨rfl, hb⟩
            have HB9 := Lib.hid ((HD8.out.below hb).2.2.1)
            clear hb
            go_wp2_with fail
            go_ret
            exact ⟨rfl, HB9.out⟩
end Go.Proofs.Ytpnmodkddiljeaa
