/- Store: the walk on the way that stores. Conditions: the log is in order. -/
import Derived.Test.YtpnmodkddiljeaaStore
namespace Go.Proofs.Ytpnmodkddiljeaa
open Go.RowKit Go.Proofs.YtpnmodkddiljeaaW.PrintWords Go.Proofs.YtpnmodkddiljeaaW.PrintLast PEntryPlays Go.Shelf

def lenOf : Value → Nat | .slice _ n _ => n | _ => 0

/-- What a Store comes to. -/
def LS.put (st : LS) (es : List S31) : Stored :=
  match es.dropWhile st.skip with
  | [] => ⟨st, 0, [], 0⟩
  | e :: es' => if 4096 < (e.f0 - st.index - 1) + (es'.length + 1) then ⟨st, 0, [], 6⟩ else ⟨{ st with l := st.l.take (e.f0 - st.index - 1).toNat ++ e :: es' }, e.f0, e :: es', 0⟩

/-- Between two rounds: k entries have been stored. -/
def StoreRel (N4 g : Nat) (ok : Nat → Prop) (w4 : World) (st : LS) (cf : Value) (A : Option Addr) (n : Nat) (xs : List S31) (k : Nat) (pv : Value) (wr : World) : Prop :=
  ∃ lv', wr.heap[g]? = some (.cells #[.int .u64 st.index, .int .u64 st.term, cf, lv'] 70 (0, 0)) ∧ G k31 31 wr (fun b => ((ok b ∧ b ≠ g) ∨ N4 ≤ b) ∧ some b ≠ pv.ownBlock) lv' (st.l.take n ++ xs.take k) ∧
    G k31 31 wr (fun b => N4 ≤ b ∧ some b ≠ lv'.ownBlock) pv (xs.take k) ∧ (k = 0 → lv' = .slice A n n) ∧ (0 < k → ∀ b, lv'.ownBlock = some b → N4 ≤ b) ∧ Fr w4 wr (fun b => b = g)

theorem dropWhile_at {α : Type} {p : α → Bool} {l : List α} {k : Nat} (h : ∀ j (hj : j < l.length), j < k → p l[j] = true) (hk : ∀ (hk : k < l.length), p l[k] = false) : l.dropWhile p = l.drop k := by
  induction l generalizing k with
  | nil => simp
  | cons x l ih =>
    cases k with
    | zero =>
      have := hk (by simp)
      simp only [List.getElem_cons_zero] at this
      rw [List.dropWhile_cons_of_neg (by simp [this]), List.drop_zero]
    | succ k =>
      have := h 0 (by simp) (by omega)
      simp only [List.getElem_cons_zero] at this
      rw [List.dropWhile_cons_of_pos this, List.drop_succ_cons]
      exact ih (fun j hj hjk => by have := h (j + 1) (by simp; omega) (by omega); simpa using this) (fun hk' => by have := hk (by simp; omega); simpa using this)

set_option maxHeartbeats 2000000 in
set_option maxRecDepth 100000 in
theorem store_main {g : Nat} {w : World} {ok oke : Nat → Prop} {lv ve : Value} {st : LS} (h : IsL 70 g w ok lv st) (hok : LSok st) (i t : Int) (es : List S31) (he : G k31 31 w oke ve es) (hg : ¬ oke g) (hl : es.length ≤ 4096) (h7 : ∀ e, e ∈ es → e.f4.length ≤ 4096)
    (hm : mayES i t es = true) (hb1 : ((st.termAt i).2 == 1) = false) (hb5 : ((st.termAt i).2 == 5) = false) (hb0 : (st.termAt i).2 = 0 → (st.termAt i).1 = t) 
    (hbd : ∀ j (hj : j < es.length), (∀ j' (hj' : j' < es.length), j' < j → st.skip es[j'] = true) → st.index < es[j].f0 → ∃ n : Nat, es[j].f0 - st.index - 1 = n ∧ n ≤ st.l.length) :
    Calls Try.prog 11 #[.pointer (some ⟨g, 0, none⟩), .int .u64 i, .int .u64 t, ve] w fun e w' => ∃ v, e = .returned (.tuple #[.int .u64 (st.put es).at_, v, .int .i64 (st.put es).e]) ∧
      Left 70 g w ok lv (st.put es).st w' ∧ G k31 31 w' (fun k => w.heap.size ≤ k ∧ k ≠ g) v (st.put es).put := by
  obtain ⟨PUT, hP⟩ : ∃ P, st.put es = P := ⟨_, rfl⟩
  rw [hP]
  have HP := Lib.hid hP
  have H := Lib.hid h
  have HE := Lib.hid (G_bound he)
  have HT := Lib.hid (term_any h hok i)
  have HM := Lib.hid (fun w1 hb => may_calls i t es (w := w1) (G_below he hb) (by omega) (fun e hx => by have := h7 e hx; omega))
  have HO := Lib.hid hok
  have HB0 := Lib.hid hbd
  have HD := Lib.hid (fun k h1 h2 => dropWhile_at (p := st.skip) (l := es) (k := k) h1 h2)
  have H7 := Lib.hid h7
  have hgl := h.lt
  have hlen := hok.len
  have hi0 := hok.i0
  have hi1 := hok.i1
  clear h he hok hbd h7 hP
  generalize ht : st.termAt i = p at *
  obtain ⟨a, b⟩ := p
  dsimp only at *
  have hb2 : (b == 0 && a != t) = false := by
    by_cases h : b = 0
    · have := hb0 h; simp [this]
    · simp [h]
  clear ht
  have c0 : ∀ (x : Bool), (b == 0) = x → x = true → (a != t) = false := by
    rintro x rfl hx
    have := hb0 (by simpa using hx)
    simpa using this
  clear hb0 hb2
  cases hb0 : (b == 0) with
  | true =>
    have ha := c0 _ hb0 rfl
    clear c0
    go_enter Try.func11, Try.ntmps11
    go_wp2_with fail
    refine HT.out.mono ?_
    rintro e w1 ⟨rfl, hb⟩
    have HB := Lib.hid hb
    clear hb
    go_wp2_with fail
    refine (HM.out _ HB.out).mono ?_
    rintro e w2 ⟨rfl, hb⟩
    have HB2 := Lib.hid (below_then HB.out HB.out.size hb)
    rw [hm]
    clear hb
    go_wp2_with fail
    have HL2 := Lib.hid (H.out.below HB2.out)
    have HE2 := Lib.hid (G_below HE.out HB2.out)
    have hw2 := HB2.out.size
    go_loopw [3] (fun v wr => ∃ k : Nat, k ≤ es.length ∧ G k31 31 wr (fun b => oke b ∧ b < w.heap.size) v (es.drop k) ∧ (∀ j (hj : j < es.length), j < k → st.skip es[j] = true) ∧ Below w.heap.size w wr)
      (fun v _ => lenOf v)
    case atStart => exact ⟨0, Nat.zero_le _, HE2.out, fun _ _ h => by omega, HB2.out⟩
    case round =>
      obtain ⟨k, hk, hv, hsk, hB⟩ := hrel
      have HV := Lib.hid hv
      have HSk := Lib.hid hsk
      have HBr := Lib.hid hB
      have HLr := Lib.hid (H.out.below hB)
      have hld : (es.drop k).length = es.length - k := by simp
      obtain ⟨Av, cv, hve, hcv⟩ := G_slice hv
      rw [hld] at hve hcv
      subst hve
      obtain ⟨⟨cf, hbg, _⟩, _⟩ := HLr.out
      have r0 := blk_cell hbg 0
      simp only [List.getElem?_toArray, List.getElem?_cons_zero] at r0
      clear hv hsk hB hbg
      by_cases hlt : k < es.length
      · have hE0 := G_ent HV.out 0 (by omega)
        simp only [List.getElem_drop, Nat.add_zero, Nat.zero_mul] at hE0
        obtain ⟨b1, off1, A4, c4, rfl, hokb, e0, e1, e2, e3, e4, hl4, hF4⟩ := hE0
        clear e2 e3 e4 hl4 hF4 hokb
        have p0 : 0 < es.length - k := by omega
        by_cases hi : es[k].f0 ≤ st.index
        · have hskk : st.skip es[k] = true := by simp [LS.skip, hi]
          have hn1 : (es.drop k).drop 1 = es.drop (k + 1) := by rw [List.drop_drop]
          have HG1 := Lib.hid (hn1 ▸ G_drop HV.out (m := 1) (by omega))
          clear e1
          generalize es[k].f0 = f0 at *
          have HS : ∀ w', Fr wr w' (fun _ => False) → (fun w' => w'.cell? ⟨b1, off1, none⟩ = some (.int .u64 f0) ∧ w'.cell? ⟨g, 0, none⟩ = some (.int .u64 st.index)) w' := fun w' hf => ⟨hf.cell (fun h => h) e0, hf.cell (fun h => h) r0⟩
          clear e0 r0
          go_wp2_with fail
          refine start_ (n := 26) (S := (fun w' => w'.cell? ⟨b1, off1, none⟩ = some (.int .u64 f0) ∧ w'.cell? ⟨g, 0, none⟩ = some (.int .u64 st.index))) (ds := []) #[false, false, false, false, false, false, false, false, false, false, false, false, false, false, false, false, false, false, false, false, false, false, false, false, false, false] (by kernel_rfl) rfl rfl (by exact HS _ (Fr.refl wr _).drew) (fun hHeld => ?_)
          refine pure_ (i := 0) (N := some 43) (v := ?_) (a' := ?_) #[true, false, false, false, false, false, false, false, false, false, false, false, false, false, false, false, false, false, false, false, false, false, false, false, false, false] rfl rfl (by kernel_rfl) (fun _ _ _ h => h) (Or.inl ⟨by rfl, ?_⟩) ?_ ?_   -- move
          rotate_left
          · intro w'
            go_simp
            with_reducible rfl
          rotate_left
          · simp only [Act.put, List.setIfInBounds_toArray, List.set_cons_zero, List.set_cons_succ]
            rfl
          refine pure_ (i := 1) (N := some 44) (v := ?_) (a' := ?_) #[true, true, false, false, false, false, false, false, false, false, false, false, false, false, false, false, false, false, false, false, false, false, false, false, false, false] rfl rfl (by kernel_rfl) (fun _ _ _ h => h) (Or.inl ⟨by rfl, ?_⟩) ?_ ?_   -- call
          rotate_left
          · intro w'
            go_simp
            with_reducible rfl
          rotate_left
          · simp only [Act.put, List.setIfInBounds_toArray, List.set_cons_zero, List.set_cons_succ]
            rfl
          refine pure_ (i := 2) (N := some 45) (v := ?_) (a' := ?_) #[true, true, true, false, false, false, false, false, false, false, false, false, false, false, false, false, false, false, false, false, false, false, false, false, false, false] rfl rfl (by kernel_rfl) (fun _ _ _ h => h) (Or.inl ⟨by rfl, ?_⟩) ?_ ?_   -- binOp
          rotate_left
          · intro w'
            go_simp
            with_reducible rfl
          rotate_left
          · simp only [Act.put, List.setIfInBounds_toArray, List.set_cons_zero, List.set_cons_succ]
            rfl
          refine pure_ (i := 3) (N := some 46) (v := ?_) (a' := ?_) #[true, true, true, true, false, false, false, false, false, false, false, false, false, false, false, false, false, false, false, false, false, false, false, false, false, false] rfl rfl (by kernel_rfl) (fun _ _ _ h => h) (Or.inl ⟨by rfl, ?_⟩) ?_ ?_   -- move
          rotate_left
          · intro w'
            go_simp
            with_reducible rfl
          rotate_left
          · simp only [Act.put, List.setIfInBounds_toArray, List.set_cons_zero, List.set_cons_succ]
            rfl
          refine pure_ (i := 4) (N := some 47) (v := ?_) (a' := ?_) #[true, true, true, true, true, false, false, false, false, false, false, false, false, false, false, false, false, false, false, false, false, false, false, false, false, false] rfl rfl (by kernel_rfl) (fun _ _ _ h => h) (Or.inl ⟨by rfl, ?_⟩) ?_ ?_   -- move
          rotate_left
          · intro w'
            go_simp
            with_reducible rfl
          rotate_left
          · simp only [Act.put, List.setIfInBounds_toArray, List.set_cons_zero, List.set_cons_succ]
            rfl
          refine pure_ (i := 5) (N := some 48) (v := ?_) (a' := ?_) #[true, true, true, true, true, true, false, false, false, false, false, false, false, false, false, false, false, false, false, false, false, false, false, false, false, false] rfl rfl (by kernel_rfl) (fun _ _ _ h => h) (Or.inl ⟨by rfl, ?_⟩) ?_ ?_   -- indexAddr
          rotate_left
          · intro w'
            go_simp
            with_reducible rfl
          rotate_left
          · simp only [Act.put, List.setIfInBounds_toArray, List.set_cons_zero, List.set_cons_succ]
            rfl
          refine pure_ (i := 6) (N := some 49) (v := ?_) (a' := ?_) #[true, true, true, true, true, true, true, false, false, false, false, false, false, false, false, false, false, false, false, false, false, false, false, false, false, false] rfl rfl (by kernel_rfl) (fun _ _ _ h => h) (Or.inl ⟨by rfl, ?_⟩) ?_ ?_   -- fieldAddr
          rotate_left
          · intro w'
            go_simp
            with_reducible rfl
          rotate_left
          · simp only [Act.put, List.setIfInBounds_toArray, List.set_cons_zero, List.set_cons_succ]
            rfl
          refine pure_ (i := 8) (N := some 51) (v := ?_) (a' := ?_) #[true, true, true, true, true, true, true, false, true, false, false, false, false, false, false, false, false, false, false, false, false, false, false, false, false, false] rfl rfl (by kernel_rfl) (fun _ _ _ h => h) (Or.inl ⟨by rfl, ?_⟩) ?_ ?_   -- move
          rotate_left
          · intro w'
            go_simp
            with_reducible rfl
          rotate_left
          · simp only [Act.put, List.setIfInBounds_toArray, List.set_cons_zero, List.set_cons_succ]
            rfl
          refine pure_ (i := 9) (N := some 52) (v := ?_) (a' := ?_) #[true, true, true, true, true, true, true, false, true, true, false, false, false, false, false, false, false, false, false, false, false, false, false, false, false, false] rfl rfl (by kernel_rfl) (fun _ _ _ h => h) (Or.inl ⟨by rfl, ?_⟩) ?_ ?_   -- nilCheck
          rotate_left
          · intro w'
            go_simp
            with_reducible rfl
          rotate_left
          · simp only [Act.put, List.setIfInBounds_toArray, List.set_cons_zero, List.set_cons_succ]
            rfl
          refine pure_ (i := 10) (N := some 53) (v := ?_) (a' := ?_) #[true, true, true, true, true, true, true, false, true, true, true, false, false, false, false, false, false, false, false, false, false, false, false, false, false, false] rfl rfl (by kernel_rfl) (fun _ _ _ h => h) (Or.inl ⟨by rfl, ?_⟩) ?_ ?_   -- fieldAddr
          rotate_left
          · intro w'
            go_simp
            with_reducible rfl
          rotate_left
          · simp only [Act.put, List.setIfInBounds_toArray, List.set_cons_zero, List.set_cons_succ]
            rfl
          refine take_ (i := 7) (N := some 50) (v := ?_) (a' := ?_) #[true, true, true, true, true, true, true, true, true, true, true, false, false, false, false, false, false, false, false, false, false, false, false, false, false, false] rfl rfl (by kernel_rfl) (fun _ _ _ h => h) (Or.inl ⟨by rfl, ?_⟩) hHeld ?_ ?_   -- Go.Op.load 27 (Go.Operand.tmp 49)
          rotate_left
          · rintro w' ⟨s0, s1⟩
            go_simp
            with_reducible rfl
          rotate_left
          · simp only [Act.put, List.setIfInBounds_toArray, List.set_cons_zero, List.set_cons_succ]
            rfl
          refine take_ (i := 11) (N := some 54) (v := ?_) (a' := ?_) #[true, true, true, true, true, true, true, true, true, true, true, true, false, false, false, false, false, false, false, false, false, false, false, false, false, false] rfl rfl (by kernel_rfl) (fun _ _ _ h => h) (Or.inl ⟨by rfl, ?_⟩) hHeld ?_ ?_   -- Go.Op.load 27 (Go.Operand.tmp 53)
          rotate_left
          · rintro w' ⟨s0, s1⟩
            go_simp
            with_reducible rfl
          rotate_left
          · simp only [Act.put, List.setIfInBounds_toArray, List.set_cons_zero, List.set_cons_succ]
            rfl
          refine pure_ (i := 12) (N := some 55) (v := ?_) (a' := ?_) #[true, true, true, true, true, true, true, true, true, true, true, true, true, false, false, false, false, false, false, false, false, false, false, false, false, false] rfl rfl (by kernel_rfl) (fun _ _ _ h => h) (Or.inl ⟨by rfl, ?_⟩) ?_ ?_   -- binOp
          rotate_left
          · intro w'
            go_simp
            with_reducible rfl
          rotate_left
          · simp only [Act.put, List.setIfInBounds_toArray, List.set_cons_zero, List.set_cons_succ]
            rfl
          refine pure_ (i := 13) (N := some 56) (v := ?_) (a' := ?_) #[true, true, true, true, true, true, true, true, true, true, true, true, true, true, false, false, false, false, false, false, false, false, false, false, false, false] rfl rfl (by kernel_rfl) (fun _ _ _ h => h) (Or.inl ⟨by rfl, ?_⟩) ?_ ?_   -- move
          rotate_left
          · intro w'
            go_simp
            with_reducible rfl
          rotate_left
          · simp only [Act.put, List.setIfInBounds_toArray, List.set_cons_zero, List.set_cons_succ]
            rfl
          refine pure_ (i := 14) (N := some 57) (v := undef) (a' := ?_) #[true, true, true, true, true, true, true, true, true, true, true, true, true, true, true, false, false, false, false, false, false, false, false, false, false, false] rfl rfl (by kernel_rfl) (fun _ _ _ h => h) (Or.inr ⟨by rfl, rfl⟩) ?_ ?_   -- off: move
          rotate_left
          · simp only [Act.put, List.setIfInBounds_toArray, List.set_cons_zero, List.set_cons_succ]
            rfl
          refine pure_ (i := 15) (N := some 58) (v := undef) (a' := ?_) #[true, true, true, true, true, true, true, true, true, true, true, true, true, true, true, true, false, false, false, false, false, false, false, false, false, false] rfl rfl (by kernel_rfl) (fun _ _ _ h => h) (Or.inr ⟨by rfl, rfl⟩) ?_ ?_   -- off: move
          rotate_left
          · simp only [Act.put, List.setIfInBounds_toArray, List.set_cons_zero, List.set_cons_succ]
            rfl
          refine pure_ (i := 16) (N := some 59) (v := undef) (a' := ?_) #[true, true, true, true, true, true, true, true, true, true, true, true, true, true, true, true, true, false, false, false, false, false, false, false, false, false] rfl rfl (by kernel_rfl) (fun _ _ _ h => h) (Or.inr ⟨by rfl, rfl⟩) ?_ ?_   -- off: indexAddr
          rotate_left
          · simp only [Act.put, List.setIfInBounds_toArray, List.set_cons_zero, List.set_cons_succ]
            rfl
          refine pure_ (i := 17) (N := some 60) (v := undef) (a' := ?_) #[true, true, true, true, true, true, true, true, true, true, true, true, true, true, true, true, true, true, false, false, false, false, false, false, false, false] rfl rfl (by kernel_rfl) (fun _ _ _ h => h) (Or.inr ⟨by rfl, rfl⟩) ?_ ?_   -- off: fieldAddr
          rotate_left
          · simp only [Act.put, List.setIfInBounds_toArray, List.set_cons_zero, List.set_cons_succ]
            rfl
          refine pure_ (i := 18) (N := some 61) (v := undef) (a' := ?_) #[true, true, true, true, true, true, true, true, true, true, true, true, true, true, true, true, true, true, true, false, false, false, false, false, false, false] rfl rfl (by kernel_rfl) (fun _ _ _ h => h) (Or.inr ⟨by rfl, rfl⟩) ?_ ?_   -- off: load
          rotate_left
          · simp only [Act.put, List.setIfInBounds_toArray, List.set_cons_zero, List.set_cons_succ]
            rfl
          refine pure_ (i := 19) (N := some 62) (v := undef) (a' := ?_) #[true, true, true, true, true, true, true, true, true, true, true, true, true, true, true, true, true, true, true, true, false, false, false, false, false, false] rfl rfl (by kernel_rfl) (fun _ _ _ h => h) (Or.inr ⟨by rfl, rfl⟩) ?_ ?_   -- off: move
          rotate_left
          · simp only [Act.put, List.setIfInBounds_toArray, List.set_cons_zero, List.set_cons_succ]
            rfl
          refine pure_ (i := 20) (N := some 63) (v := undef) (a' := ?_) #[true, true, true, true, true, true, true, true, true, true, true, true, true, true, true, true, true, true, true, true, true, false, false, false, false, false] rfl rfl (by kernel_rfl) (fun _ _ _ h => h) (Or.inr ⟨by rfl, rfl⟩) ?_ ?_   -- off: indexAddr
          rotate_left
          · simp only [Act.put, List.setIfInBounds_toArray, List.set_cons_zero, List.set_cons_succ]
            rfl
          refine pure_ (i := 21) (N := some 64) (v := undef) (a' := ?_) #[true, true, true, true, true, true, true, true, true, true, true, true, true, true, true, true, true, true, true, true, true, true, false, false, false, false] rfl rfl (by kernel_rfl) (fun _ _ _ h => h) (Or.inr ⟨by rfl, rfl⟩) ?_ ?_   -- off: fieldAddr
          rotate_left
          · simp only [Act.put, List.setIfInBounds_toArray, List.set_cons_zero, List.set_cons_succ]
            rfl
          refine pure_ (i := 22) (N := some 65) (v := undef) (a' := ?_) #[true, true, true, true, true, true, true, true, true, true, true, true, true, true, true, true, true, true, true, true, true, true, true, false, false, false] rfl rfl (by kernel_rfl) (fun _ _ _ h => h) (Or.inr ⟨by rfl, rfl⟩) ?_ ?_   -- off: load
          rotate_left
          · simp only [Act.put, List.setIfInBounds_toArray, List.set_cons_zero, List.set_cons_succ]
            rfl
          refine one_ (i := 23) (N := some 66) #[true, true, true, true, true, true, true, true, true, true, true, true, true, true, true, true, true, true, true, true, true, true, true, true, false, false] rfl rfl (by kernel_rfl) (by decide) (fun K hK => ?_)   -- off: Go.Op.call { callee := Go.Callee.value (Go.Operand.func 32), args := #[Go.Operand.tmp 57, Go.Operand.tmp 61, G
          refine off_ (by rfl) ?_
          refine hK.out _ _ hHeld (fun hHeld => ?_)
          clear hK K
          refine norm_ (a' := ?_) ?_ ?_
          rotate_left
          · show Act.put _ (some 66) _ = _
            simp only [Act.put, List.setIfInBounds_toArray, List.set_cons_zero, List.set_cons_succ]
            rfl
          refine pure_ (i := 24) (N := some 67) (v := ?_) (a' := ?_) #[true, true, true, true, true, true, true, true, true, true, true, true, true, true, true, true, true, true, true, true, true, true, true, true, true, false] rfl rfl (by kernel_rfl) (fun _ _ _ h => h) (Or.inl ⟨by rfl, ?_⟩) ?_ ?_   -- pick
          rotate_left
          · intro w'
            go_simp
            with_reducible rfl
          rotate_left
          · simp only [Act.put, List.setIfInBounds_toArray, List.set_cons_zero, List.set_cons_succ]
            rfl
          refine pure_ (i := 25) (N := some 68) (v := ?_) (a' := ?_) #[true, true, true, true, true, true, true, true, true, true, true, true, true, true, true, true, true, true, true, true, true, true, true, true, true, true] rfl rfl (by kernel_rfl) (fun _ _ _ h => h) (Or.inl ⟨by rfl, ?_⟩) ?_ ?_   -- pick
          rotate_left
          · intro w'
            go_simp
            with_reducible rfl
          rotate_left
          · simp only [Act.put, List.setIfInBounds_toArray, List.set_cons_zero, List.set_cons_succ]
            rfl
          refine done_ (by kernel_rfl) ?_
          clear HS hHeld
          have p1 : 1 ≤ es.length - k := by omega
          go_wp2_with fail
          refine ⟨⟨k + 1, by omega, ?_, ?_, below_drew HBr.out⟩, by simp only [lenOf]; omega⟩
          · have := HG1.out
            rw [Option.map_some, add_off] at this
            exact G_drew this
          · intro j hj hjk
            by_cases h : j < k
            · exact HSk.out j hj h
            · obtain rfl : j = k := by omega
              exact hskk
        · have hn1 : (es.drop k).drop 1 = es.drop (k + 1) := by rw [List.drop_drop]
          have HG1 := Lib.hid (hn1 ▸ G_drop HV.out (m := 1) (by omega))
          have HXk := Lib.hid (show es[k] = es[k] from rfl)
          have hx0 : ¬ es[k].f0 ≤ st.index := hi
          have HFt := Lib.hid (fits_any (HLr.out.below (below_drew (Below.refl _ _))) HO.out es[k].f0 es[k].f1)
          have hskk : st.skip es[k] = st.fits es[k].f0 es[k].f1 := by simp [LS.skip, hi]
          have HXi := Lib.hid hx0
          clear hx0 HXk
          generalize hfb : st.fits es[k].f0 es[k].f1 = fb at *
          generalize hf0 : es[k].f0 = f0 at *
          generalize hf1 : es[k].f1 = f1 at *
          have HS : ∀ w', Fr wr w' (fun _ => False) → (fun w' => w'.cell? ⟨b1, off1, none⟩ = some (.int .u64 f0) ∧ w'.cell? ⟨b1, off1 + 1, none⟩ = some (.int .u64 f1) ∧ w'.cell? ⟨g, 0, none⟩ = some (.int .u64 st.index)) w' := fun w' hf => ⟨hf.cell (fun h => h) e0, hf.cell (fun h => h) e1, hf.cell (fun h => h) r0⟩
          clear e0 e1 r0
          go_wp2_with fail
          have hi' : ¬ f0 ≤ st.index := by have := HXi.out; omega
          refine start_ (n := 26) (S := (fun w' => w'.cell? ⟨b1, off1, none⟩ = some (.int .u64 f0) ∧ w'.cell? ⟨b1, off1 + 1, none⟩ = some (.int .u64 f1) ∧ w'.cell? ⟨g, 0, none⟩ = some (.int .u64 st.index))) (ds := []) #[false, false, false, false, false, false, false, false, false, false, false, false, false, false, false, false, false, false, false, false, false, false, false, false, false, false] (by kernel_rfl) rfl rfl (by exact HS _ (Fr.refl wr _).drew) (fun hHeld => ?_)
          refine pure_ (i := 0) (N := some 43) (v := ?_) (a' := ?_) #[true, false, false, false, false, false, false, false, false, false, false, false, false, false, false, false, false, false, false, false, false, false, false, false, false, false] rfl rfl (by kernel_rfl) (fun _ _ _ h => h) (Or.inl ⟨by rfl, ?_⟩) ?_ ?_   -- move
          rotate_left
          · intro w'
            go_simp
            with_reducible rfl
          rotate_left
          · simp only [Act.put, List.setIfInBounds_toArray, List.set_cons_zero, List.set_cons_succ]
            rfl
          refine pure_ (i := 1) (N := some 44) (v := ?_) (a' := ?_) #[true, true, false, false, false, false, false, false, false, false, false, false, false, false, false, false, false, false, false, false, false, false, false, false, false, false] rfl rfl (by kernel_rfl) (fun _ _ _ h => h) (Or.inl ⟨by rfl, ?_⟩) ?_ ?_   -- call
          rotate_left
          · intro w'
            go_simp
            with_reducible rfl
          rotate_left
          · simp only [Act.put, List.setIfInBounds_toArray, List.set_cons_zero, List.set_cons_succ]
            rfl
          refine pure_ (i := 2) (N := some 45) (v := ?_) (a' := ?_) #[true, true, true, false, false, false, false, false, false, false, false, false, false, false, false, false, false, false, false, false, false, false, false, false, false, false] rfl rfl (by kernel_rfl) (fun _ _ _ h => h) (Or.inl ⟨by rfl, ?_⟩) ?_ ?_   -- binOp
          rotate_left
          · intro w'
            go_simp
            with_reducible rfl
          rotate_left
          · simp only [Act.put, List.setIfInBounds_toArray, List.set_cons_zero, List.set_cons_succ]
            rfl
          refine pure_ (i := 3) (N := some 46) (v := ?_) (a' := ?_) #[true, true, true, true, false, false, false, false, false, false, false, false, false, false, false, false, false, false, false, false, false, false, false, false, false, false] rfl rfl (by kernel_rfl) (fun _ _ _ h => h) (Or.inl ⟨by rfl, ?_⟩) ?_ ?_   -- move
          rotate_left
          · intro w'
            go_simp
            with_reducible rfl
          rotate_left
          · simp only [Act.put, List.setIfInBounds_toArray, List.set_cons_zero, List.set_cons_succ]
            rfl
          refine pure_ (i := 4) (N := some 47) (v := ?_) (a' := ?_) #[true, true, true, true, true, false, false, false, false, false, false, false, false, false, false, false, false, false, false, false, false, false, false, false, false, false] rfl rfl (by kernel_rfl) (fun _ _ _ h => h) (Or.inl ⟨by rfl, ?_⟩) ?_ ?_   -- move
          rotate_left
          · intro w'
            go_simp
            with_reducible rfl
          rotate_left
          · simp only [Act.put, List.setIfInBounds_toArray, List.set_cons_zero, List.set_cons_succ]
            rfl
          refine pure_ (i := 5) (N := some 48) (v := ?_) (a' := ?_) #[true, true, true, true, true, true, false, false, false, false, false, false, false, false, false, false, false, false, false, false, false, false, false, false, false, false] rfl rfl (by kernel_rfl) (fun _ _ _ h => h) (Or.inl ⟨by rfl, ?_⟩) ?_ ?_   -- indexAddr
          rotate_left
          · intro w'
            go_simp
            with_reducible rfl
          rotate_left
          · simp only [Act.put, List.setIfInBounds_toArray, List.set_cons_zero, List.set_cons_succ]
            rfl
          refine pure_ (i := 6) (N := some 49) (v := ?_) (a' := ?_) #[true, true, true, true, true, true, true, false, false, false, false, false, false, false, false, false, false, false, false, false, false, false, false, false, false, false] rfl rfl (by kernel_rfl) (fun _ _ _ h => h) (Or.inl ⟨by rfl, ?_⟩) ?_ ?_   -- fieldAddr
          rotate_left
          · intro w'
            go_simp
            with_reducible rfl
          rotate_left
          · simp only [Act.put, List.setIfInBounds_toArray, List.set_cons_zero, List.set_cons_succ]
            rfl
          refine pure_ (i := 8) (N := some 51) (v := ?_) (a' := ?_) #[true, true, true, true, true, true, true, false, true, false, false, false, false, false, false, false, false, false, false, false, false, false, false, false, false, false] rfl rfl (by kernel_rfl) (fun _ _ _ h => h) (Or.inl ⟨by rfl, ?_⟩) ?_ ?_   -- move
          rotate_left
          · intro w'
            go_simp
            with_reducible rfl
          rotate_left
          · simp only [Act.put, List.setIfInBounds_toArray, List.set_cons_zero, List.set_cons_succ]
            rfl
          refine pure_ (i := 9) (N := some 52) (v := ?_) (a' := ?_) #[true, true, true, true, true, true, true, false, true, true, false, false, false, false, false, false, false, false, false, false, false, false, false, false, false, false] rfl rfl (by kernel_rfl) (fun _ _ _ h => h) (Or.inl ⟨by rfl, ?_⟩) ?_ ?_   -- nilCheck
          rotate_left
          · intro w'
            go_simp
            with_reducible rfl
          rotate_left
          · simp only [Act.put, List.setIfInBounds_toArray, List.set_cons_zero, List.set_cons_succ]
            rfl
          refine pure_ (i := 10) (N := some 53) (v := ?_) (a' := ?_) #[true, true, true, true, true, true, true, false, true, true, true, false, false, false, false, false, false, false, false, false, false, false, false, false, false, false] rfl rfl (by kernel_rfl) (fun _ _ _ h => h) (Or.inl ⟨by rfl, ?_⟩) ?_ ?_   -- fieldAddr
          rotate_left
          · intro w'
            go_simp
            with_reducible rfl
          rotate_left
          · simp only [Act.put, List.setIfInBounds_toArray, List.set_cons_zero, List.set_cons_succ]
            rfl
          refine take_ (i := 7) (N := some 50) (v := ?_) (a' := ?_) #[true, true, true, true, true, true, true, true, true, true, true, false, false, false, false, false, false, false, false, false, false, false, false, false, false, false] rfl rfl (by kernel_rfl) (fun _ _ _ h => h) (Or.inl ⟨by rfl, ?_⟩) hHeld ?_ ?_   -- Go.Op.load 27 (Go.Operand.tmp 49)
          rotate_left
          · rintro w' ⟨s0, s1, s2⟩
            go_simp
            with_reducible rfl
          rotate_left
          · simp only [Act.put, List.setIfInBounds_toArray, List.set_cons_zero, List.set_cons_succ]
            rfl
          refine take_ (i := 11) (N := some 54) (v := ?_) (a' := ?_) #[true, true, true, true, true, true, true, true, true, true, true, true, false, false, false, false, false, false, false, false, false, false, false, false, false, false] rfl rfl (by kernel_rfl) (fun _ _ _ h => h) (Or.inl ⟨by rfl, ?_⟩) hHeld ?_ ?_   -- Go.Op.load 27 (Go.Operand.tmp 53)
          rotate_left
          · rintro w' ⟨s0, s1, s2⟩
            go_simp
            with_reducible rfl
          rotate_left
          · simp only [Act.put, List.setIfInBounds_toArray, List.set_cons_zero, List.set_cons_succ]
            rfl
          refine pure_ (i := 12) (N := some 55) (v := ?_) (a' := ?_) #[true, true, true, true, true, true, true, true, true, true, true, true, true, false, false, false, false, false, false, false, false, false, false, false, false, false] rfl rfl (by kernel_rfl) (fun _ _ _ h => h) (Or.inl ⟨by rfl, ?_⟩) ?_ ?_   -- binOp
          rotate_left
          · intro w'
            go_simp
            with_reducible rfl
          rotate_left
          · simp only [Act.put, List.setIfInBounds_toArray, List.set_cons_zero, List.set_cons_succ]
            rfl
          refine pure_ (i := 13) (N := some 56) (v := ?_) (a' := ?_) #[true, true, true, true, true, true, true, true, true, true, true, true, true, true, false, false, false, false, false, false, false, false, false, false, false, false] rfl rfl (by kernel_rfl) (fun _ _ _ h => h) (Or.inl ⟨by rfl, ?_⟩) ?_ ?_   -- move
          rotate_left
          · intro w'
            go_simp
            with_reducible rfl
          rotate_left
          · simp only [Act.put, List.setIfInBounds_toArray, List.set_cons_zero, List.set_cons_succ]
            rfl
          refine pure_ (i := 14) (N := some 57) (v := ?_) (a' := ?_) #[true, true, true, true, true, true, true, true, true, true, true, true, true, true, true, false, false, false, false, false, false, false, false, false, false, false] rfl rfl (by kernel_rfl) (fun _ _ _ h => h) (Or.inl ⟨by rfl, ?_⟩) ?_ ?_   -- move
          rotate_left
          · intro w'
            go_simp
            with_reducible rfl
          rotate_left
          · simp only [Act.put, List.setIfInBounds_toArray, List.set_cons_zero, List.set_cons_succ]
            rfl
          refine pure_ (i := 15) (N := some 58) (v := ?_) (a' := ?_) #[true, true, true, true, true, true, true, true, true, true, true, true, true, true, true, true, false, false, false, false, false, false, false, false, false, false] rfl rfl (by kernel_rfl) (fun _ _ _ h => h) (Or.inl ⟨by rfl, ?_⟩) ?_ ?_   -- move
          rotate_left
          · intro w'
            go_simp
            with_reducible rfl
          rotate_left
          · simp only [Act.put, List.setIfInBounds_toArray, List.set_cons_zero, List.set_cons_succ]
            rfl
          refine pure_ (i := 16) (N := some 59) (v := ?_) (a' := ?_) #[true, true, true, true, true, true, true, true, true, true, true, true, true, true, true, true, true, false, false, false, false, false, false, false, false, false] rfl rfl (by kernel_rfl) (fun _ _ _ h => h) (Or.inl ⟨by rfl, ?_⟩) ?_ ?_   -- indexAddr
          rotate_left
          · intro w'
            go_simp
            with_reducible rfl
          rotate_left
          · simp only [Act.put, List.setIfInBounds_toArray, List.set_cons_zero, List.set_cons_succ]
            rfl
          refine pure_ (i := 17) (N := some 60) (v := ?_) (a' := ?_) #[true, true, true, true, true, true, true, true, true, true, true, true, true, true, true, true, true, true, false, false, false, false, false, false, false, false] rfl rfl (by kernel_rfl) (fun _ _ _ h => h) (Or.inl ⟨by rfl, ?_⟩) ?_ ?_   -- fieldAddr
          rotate_left
          · intro w'
            go_simp
            with_reducible rfl
          rotate_left
          · simp only [Act.put, List.setIfInBounds_toArray, List.set_cons_zero, List.set_cons_succ]
            rfl
          refine pure_ (i := 19) (N := some 62) (v := ?_) (a' := ?_) #[true, true, true, true, true, true, true, true, true, true, true, true, true, true, true, true, true, true, false, true, false, false, false, false, false, false] rfl rfl (by kernel_rfl) (fun _ _ _ h => h) (Or.inl ⟨by rfl, ?_⟩) ?_ ?_   -- move
          rotate_left
          · intro w'
            go_simp
            with_reducible rfl
          rotate_left
          · simp only [Act.put, List.setIfInBounds_toArray, List.set_cons_zero, List.set_cons_succ]
            rfl
          refine pure_ (i := 20) (N := some 63) (v := ?_) (a' := ?_) #[true, true, true, true, true, true, true, true, true, true, true, true, true, true, true, true, true, true, false, true, true, false, false, false, false, false] rfl rfl (by kernel_rfl) (fun _ _ _ h => h) (Or.inl ⟨by rfl, ?_⟩) ?_ ?_   -- indexAddr
          rotate_left
          · intro w'
            go_simp
            with_reducible rfl
          rotate_left
          · simp only [Act.put, List.setIfInBounds_toArray, List.set_cons_zero, List.set_cons_succ]
            rfl
          refine pure_ (i := 21) (N := some 64) (v := ?_) (a' := ?_) #[true, true, true, true, true, true, true, true, true, true, true, true, true, true, true, true, true, true, false, true, true, true, false, false, false, false] rfl rfl (by kernel_rfl) (fun _ _ _ h => h) (Or.inl ⟨by rfl, ?_⟩) ?_ ?_   -- fieldAddr
          rotate_left
          · intro w'
            go_simp
            with_reducible rfl
          rotate_left
          · simp only [Act.put, List.setIfInBounds_toArray, List.set_cons_zero, List.set_cons_succ]
            rfl
          refine take_ (i := 18) (N := some 61) (v := ?_) (a' := ?_) #[true, true, true, true, true, true, true, true, true, true, true, true, true, true, true, true, true, true, true, true, true, true, false, false, false, false] rfl rfl (by kernel_rfl) (fun _ _ _ h => h) (Or.inl ⟨by rfl, ?_⟩) hHeld ?_ ?_   -- Go.Op.load 27 (Go.Operand.tmp 60)
          rotate_left
          · rintro w' ⟨s0, s1, s2⟩
            go_simp
            with_reducible rfl
          rotate_left
          · simp only [Act.put, List.setIfInBounds_toArray, List.set_cons_zero, List.set_cons_succ]
            rfl
          refine take_ (i := 22) (N := some 65) (v := ?_) (a' := ?_) #[true, true, true, true, true, true, true, true, true, true, true, true, true, true, true, true, true, true, true, true, true, true, true, false, false, false] rfl rfl (by kernel_rfl) (fun _ _ _ h => h) (Or.inl ⟨by rfl, ?_⟩) hHeld ?_ ?_   -- Go.Op.load 27 (Go.Operand.tmp 64)
          rotate_left
          · rintro w' ⟨s0, s1, s2⟩
            go_simp
            with_reducible rfl
          rotate_left
          · simp only [Act.put, List.setIfInBounds_toArray, List.set_cons_zero, List.set_cons_succ]
            rfl
          refine one_ (i := 23) (N := some 66) #[true, true, true, true, true, true, true, true, true, true, true, true, true, true, true, true, true, true, true, true, true, true, true, true, false, false] rfl rfl (by kernel_rfl) (by decide) (fun K hK => ?_)   -- Go.Op.call { callee := Go.Callee.value (Go.Operand.func 32), args := #[Go.Operand.tmp 57, Go.Operand.tmp 61, G
          refine goes_ Try.func32 (by kernel_rfl) rfl #[.pointer (some ⟨g, 0, none⟩), .int .u64 f0, .int .u64 f1] (by rfl) rfl rfl (by simp only [List.map_toArray, List.map_cons, List.map_nil]; rfl) ?_
          refine HFt.out.mono ?_
          rintro e w3 ⟨rfl, hb3⟩
          have HB3 := Lib.hid (below_then (below_drew (Below.refl wr.heap.size wr)) (Nat.le_refl _) hb3)
          clear hb3
          refine ⟨_, rfl, ?_⟩
          refine hK.out _ _ (HS _ (Fr.of_below HB3.out _)) (fun hHeld => ?_)
          clear hK K
          refine norm_ (a' := ?_) ?_ ?_
          rotate_left
          · show Act.put _ (some 66) _ = _
            simp only [Act.put, List.setIfInBounds_toArray, List.set_cons_zero, List.set_cons_succ]
            rfl
          refine pure_ (i := 24) (N := some 67) (v := ?_) (a' := ?_) #[true, true, true, true, true, true, true, true, true, true, true, true, true, true, true, true, true, true, true, true, true, true, true, true, true, false] rfl rfl (by kernel_rfl) (fun _ _ _ h => h) (Or.inl ⟨by rfl, ?_⟩) ?_ ?_   -- pick
          rotate_left
          · intro w'
            go_simp
            with_reducible rfl
          rotate_left
          · simp only [Act.put, List.setIfInBounds_toArray, List.set_cons_zero, List.set_cons_succ]
            rfl
          refine pure_ (i := 25) (N := some 68) (v := ?_) (a' := ?_) #[true, true, true, true, true, true, true, true, true, true, true, true, true, true, true, true, true, true, true, true, true, true, true, true, true, true] rfl rfl (by kernel_rfl) (fun _ _ _ h => h) (Or.inl ⟨by rfl, ?_⟩) ?_ ?_   -- pick
          rotate_left
          · intro w'
            go_simp
            with_reducible rfl
          rotate_left
          · simp only [Act.put, List.setIfInBounds_toArray, List.set_cons_zero, List.set_cons_succ]
            rfl
          refine done_ (by kernel_rfl) ?_
          clear HS hHeld HFt hi'
          cases fb with
          | true =>
            have p1 : 1 ≤ es.length - k := by omega
            go_wp2_with fail
            refine ⟨⟨k + 1, by omega, ?_, ?_, below_then HBr.out HBr.out.size HB3.out⟩, by simp only [lenOf]; omega⟩
            · have := HG1.out
              rw [Option.map_some, add_off] at this
              exact G_below this HB3.out
            · intro j hj hjk
              by_cases h : j < k
              · exact HSk.out j hj h
              · obtain rfl : j = k := by omega
                exact hskk
          | false =>
            obtain ⟨n, hn, hnl⟩ := HB0.out k hlt HSk.out (by rw [hf0]; have := HXi.out; omega)
            rw [hf0] at hn
            have HDk := Lib.hid (HD.out k HSk.out (fun _ => hskk))
            have hcons : es.drop k = es[k] :: es.drop (k + 1) := List.drop_eq_getElem_cons hlt
            have hput : st.put es = if 4096 < (n : Int) + ((es.length - k : Nat) : Int) then ⟨st, 0, [], 6⟩ else ⟨{ st with l := st.l.take n ++ es.drop k }, f0, es.drop k, 0⟩ := by
              unfold LS.put
              rw [HDk.out, hcons]
              simp only [hf0, hn, Int.toNat_natCast, List.length_drop]
              rw [show ((es.length - (k + 1) : Nat) : Int) + 1 = ((es.length - k : Nat) : Int) by omega]
            have HPut := Lib.hid (HP.out.symm.trans hput)
            have HB3' := Lib.hid (below_then HBr.out HBr.out.size HB3.out)
            have HXs := Lib.hid (G_below HV.out HB3.out)
            have HL3 := Lib.hid (H.out.below HB3'.out)
            have hxf : ∀ (hz : 0 < (es.drop k).length), ((es.drop k)[0]'hz).f0 = f0 := fun _ => by simp only [List.getElem_drop, Nat.add_zero]; exact hf0
            have HXf := Lib.hid hxf
            have H7' := Lib.hid (show ∀ e, e ∈ es.drop k → e.f4.length ≤ 4096 from fun e h => H7.out e (List.mem_of_mem_drop h))
            have hxl : (es.drop k).length = es.length - k := List.length_drop
            have hm4 : es.length - k ≤ 4096 := by omega
            clear hput hcons HDk HV HLr HB3 HG1 hf0 hf1 HSk HBr hskk HXi hn1 hxf HP HD HB0 H7 HM HT HE HE2 HL2
            generalize es.drop k = xs at *
            generalize es.length - k = m at *
            obtain ⟨⟨cf3, hbg3, hcf3⟩, hll3⟩ := HL3.out
            obtain ⟨A, c, rfl, hlc⟩ := G_slice hll3
            have hE0 := G_ent HXs.out 0 (by omega)
            simp only [Nat.add_zero, Nat.zero_mul, HXf.out] at hE0
            obtain ⟨b2, off2, _, _, hbe, _, e0, _⟩ := hE0
            injection hbe with hbe
            injection hbe with hb2 ho2 _
            subst hb2 ho2
            have r0 := blk_cell hbg3 0
            simp only [List.getElem?_toArray, List.getElem?_cons_zero] at r0
            have q0 : IntKind.u64.wrap (f0 - st.index) = f0 - st.index := IntWalk.u64_in _ (by omega)
            have q1 : IntKind.u64.wrap (f0 - st.index - 1) = n := (IntWalk.u64_in _ (by omega)).trans hn
            have q2 : IntKind.u64.wrap (m : Int) = m := IntWalk.u64_in _ (by omega)
            have q3 : IntKind.u64.wrap ((n : Int) + m) = n + m := IntWalk.u64_in _ (by omega)
            have HN := Lib.hid hn
            clear hn hbg3 hcf3 hll3 hi
            go_wp2_with fail
            go_quiet (fail)
            clear e0 r0
            have HB4 := Lib.hid (pw_below_drewN HB3'.out nq)
            have HX4 := Lib.hid (G_drewN HXs.out nq)
            have HL4 := Lib.hid (HL3.out.below (pw_below_drewN (Below.refl _ _) nq))
            clear HB3' HXs HL3
            generalize w3.drewN nq = w4 at *
            by_cases hfull : 4096 < (n : Int) + m
            · have hpe := HPut.out
              rw [if_pos hfull] at hpe
              subst hpe
              have hf' : 4096 < n + m := by omega
              go_wp2
              go_ret3
              exact ⟨_, rfl, (H.out.left HB4.out), G_nil _ _ _ _⟩
            · have hpe := HPut.out
              rw [if_neg hfull] at hpe
              subst hpe
              clear HPut
              have hf' : ¬ 4096 < n + m := by omega
              obtain ⟨⟨cf4, hbg4, hcf4⟩, hll4⟩ := HL4.out
              have c0 := blk_cell hbg4
              have f0' := blk_frozen hbg4
              have HBg4 := Lib.hid hbg4
              have HCf4 := Lib.hid (RV_bound hcf4)
              have hcut := G_take hll4 (m := n) (k := n) hnl (Nat.le_refl _) (by omega)
              have HCut := Lib.hid hcut
              have z1 : (n : Int) ≤ (c : Int) := by omega
              have z2 : n ≤ c := by omega
              clear hbg4 hcf4 hll4 hcut
              go_wp2_with fail
              obtain ⟨N4, hN4⟩ : ∃ N4, w4.heap.size = N4 := ⟨_, rfl⟩
              have hwN : w.heap.size ≤ N4 := by rw [← hN4]; exact HB4.out.size
              have HR0 : StoreRel N4 g ok w4 st cf4 A n xs 0 (.slice none 0 0) (w4.setCell ⟨g, 3, none⟩ (.slice A n n)) :=
                ⟨.slice A n n, blk_set HBg4.out 3 _, by
                  rw [List.take_zero, List.append_nil]
                  exact G_set (G_mono HCut.out (fun b hb => ⟨.inl hb, by simp [Value.ownBlock]⟩)) (p := ⟨g, 3, none⟩) (by dsimp only; rintro ⟨h | h, _⟩; exact h.2 rfl; omega) _, G_nil _ _ _ _, fun _ => rfl, fun h => absurd h (Nat.lt_irrefl _),
                  (Fr.refl w4 (fun b => b = g)).setCell (p := ⟨g, 3, none⟩) (.inl rfl) _⟩
              have HR := Lib.hid HR0
              clear HR0 c0 f0'
              generalize w4.setCell ⟨g, 3, none⟩ (.slice A n n) = w5 at *
              go_loopw [14, 102] (fun pv i wr => ∃ k : Nat, k ≤ m ∧ i = .int .i64 k ∧ StoreRel N4 g ok w4 st cf4 A n xs k pv wr) (fun _ i _ => m - (intOf i).toNat)
              case atStart => exact ⟨0, Nat.zero_le _, rfl, HR.out⟩
              case round =>
                obtain ⟨k', hk', rfl, hrl⟩ := hrel
                have HRel := Lib.hid hrl
                clear hrl
                have hF4r : Fr w4 wr (fun b => b = g) := by obtain ⟨_, _, _, _, _, _, h⟩ := HRel.out; exact h
                have HXr := Lib.hid (G_fr HX4.out hF4r (fun b hb he => hg (he ▸ hb.1)))
                clear hF4r
                by_cases hlt' : k' < m
                · obtain ⟨b2, off2, A4, c4, hbe, _, e0, e1, e2, e3, e4, hl4, hF4⟩ := G_ent HXr.out k' (by omega)
                  injection hbe with hbe
                  injection hbe with hb2 ho2 _
                  subst hb2 ho2
                  have hx7 := H7'.out xs[k'] (List.getElem_mem _)
                  have htk : xs.take (k' + 1) = xs.take k' ++ [xs[k']] := by rw [List.take_succ_eq_append_getElem (by omega)]
                  generalize xs[k'] = x at *
                  have HF4 := Lib.hid hF4
                  have HTk := Lib.hid htk
                  clear hF4 htk
                  have q4 : IntKind.i64.wrap ((k' : Int) + 1) = (k' + 1 : Nat) := IntWalk.i64_in _ (by omega)
                  go_wp2_with fail
                  clear e0 e1 e2 e3 e4
                  obtain ⟨lv', hb', hG', hP', h0', hN', hFr'⟩ := HRel.out
                  obtain ⟨A1, c1, hlv1, _⟩ := G_slice hG'
                  have hlk : (st.l.take n ++ xs.take k').length = n + k' := by rw [List.length_append, List.length_take, List.length_take]; omega
                  rw [hlk] at hlv1
                  subst hlv1
                  have hpl : (xs.take k').length = k' := by rw [List.length_take]; omega
                  obtain ⟨Ap, cp, hpv, _⟩ := G_slice hP'
                  rw [hpl] at hpv
                  subst hpv
                  have hrN : N4 ≤ wr.heap.size := by rw [← hN4]; exact hFr'.size
                  have hgN : g < N4 := by omega
                  have HG' := Lib.hid hG'
                  have HP' := Lib.hid hP'
                  have H0' := Lib.hid h0'
                  have HN' := Lib.hid hN'
                  have HFr' := Lib.hid hFr'
                  have HWa := Lib.hid ((Fr.refl wr (fun _ => False)).alloc (.cells #[.int .u64 x.f0, .int .u64 x.f1, .int .u8 x.f2, .string x.f3, .slice A4 x.f4.length c4] 31))
                  have HBox := Lib.hid (blk_new wr (.cells #[.int .u64 x.f0, .int .u64 x.f1, .int .u8 x.f2, .string x.f3, .slice A4 x.f4.length c4] 31))
                  have hsa : (wr.alloc (.cells #[.int .u64 x.f0, .int .u64 x.f1, .int .u8 x.f2, .string x.f3, .slice A4 x.f4.length c4] 31)).heap.size = wr.heap.size + 1 := World.size_alloc _ _
                  have hown : ∀ b, some b = (Value.slice A1 (n + k') c1).ownBlock → b < wr.heap.size ∧ b ≠ g := fun b hb => ⟨G_lt HG'.out b hb.symm, fun he => by rcases (HG'.out.1 b hb.symm).1 with h | h; exact h.2 he; omega⟩
                  have hpow : ∀ b, some b = (Value.slice Ap k' cp).ownBlock → b < wr.heap.size ∧ N4 ≤ b := fun b hb => ⟨G_lt HP'.out b hb.symm, (HP'.out.1 b hb.symm).1⟩
                  have HOwn := Lib.hid hown
                  have HPow := Lib.hid hpow
                  have HBg := Lib.hid (HWa.out.blk (fun h => h) hb')
                  have HGa := Lib.hid (G_fr HG'.out HWa.out (fun _ _ h => h))
                  have HPa := Lib.hid (G_fr HP'.out HWa.out (fun _ _ h => h))
                  have HFa := Lib.hid (F_fr HF4.out HWa.out (fun _ _ h => h))
                  have HFrA := Lib.hid (HFr'.out.trans HWa.out (fun _ h => h.elim))
                  clear hb' hG' hP' h0' hN' hFr' hlk hpl hown hpow HRel HFr'
                  generalize (wr.alloc (.cells #[.int .u64 x.f0, .int .u64 x.f1, .int .u8 x.f2, .string x.f3, .slice A4 x.f4.length c4] 31)) = wa at *
                  have hgl : ¬ some g = (Value.slice A1 (n + k') c1).ownBlock := fun he => (HOwn.out g he).2 rfl
                  have hbl : ¬ some wr.heap.size = (Value.slice A1 (n + k') c1).ownBlock := fun he => Nat.lt_irrefl _ (HOwn.out _ he).1
                  have b0 := blk_cell HBox.out 0
                  have b1' := blk_cell HBox.out 1
                  have b2' := blk_cell HBox.out 2
                  have b3 := blk_cell HBox.out 3
                  have b4 := blk_cell HBox.out 4
                  have r3 := blk_cell HBg.out 3
                  simp only [List.getElem?_toArray, List.getElem?_cons_succ, List.getElem?_cons_zero] at b0 b1' b2' b3 b4 r3
                  have HS : ∀ w', Fr wa w' (fun b => some b = (Value.slice A1 (n + k') c1).ownBlock) → (fun w' => w'.cell? ⟨g, 3, none⟩ = some (.slice A1 (n + k') c1) ∧ w'.cell? ⟨wr.heap.size, 0, none⟩ = some (.int .u64 x.f0) ∧ w'.cell? ⟨wr.heap.size, 1, none⟩ = some (.int .u64 x.f1) ∧ w'.cell? ⟨wr.heap.size, 2, none⟩ = some (.int .u8 x.f2) ∧ w'.cell? ⟨wr.heap.size, 3, none⟩ = some (.string x.f3) ∧ w'.cell? ⟨wr.heap.size, 4, none⟩ = some (.slice A4 x.f4.length c4)) w' := fun w' hf =>
                    ⟨hf.cell hgl r3, hf.cell hbl b0, hf.cell hbl b1', hf.cell hbl b2', hf.cell hbl b3, hf.cell hbl b4⟩
                  clear b0 b1' b2' b3 b4 r3
                  refine start_ (n := 12) (S := (fun w' => w'.cell? ⟨g, 3, none⟩ = some (.slice A1 (n + k') c1) ∧ w'.cell? ⟨wr.heap.size, 0, none⟩ = some (.int .u64 x.f0) ∧ w'.cell? ⟨wr.heap.size, 1, none⟩ = some (.int .u64 x.f1) ∧ w'.cell? ⟨wr.heap.size, 2, none⟩ = some (.int .u8 x.f2) ∧ w'.cell? ⟨wr.heap.size, 3, none⟩ = some (.string x.f3) ∧ w'.cell? ⟨wr.heap.size, 4, none⟩ = some (.slice A4 x.f4.length c4))) (ds := [11]) #[false, false, false, false, false, false, false, false, false, false, false, false] (by kernel_rfl) rfl rfl (by exact HS _ (Fr.refl wa _).drew) (fun hHeld => ?_)
                  refine pure_ (i := 0) (N := some 106) (v := ?_) (a' := ?_) #[true, false, false, false, false, false, false, false, false, false, false, false] rfl rfl (by kernel_rfl) (fun _ _ _ h => h) (Or.inl ⟨by rfl, ?_⟩) ?_ ?_   -- move
                  rotate_left
                  · intro w'
                    go_simp
                    with_reducible rfl
                  rotate_left
                  · simp only [Act.put, List.setIfInBounds_toArray, List.set_cons_zero, List.set_cons_succ]
                    rfl
                  refine pure_ (i := 1) (N := some 107) (v := ?_) (a' := ?_) #[true, true, false, false, false, false, false, false, false, false, false, false] rfl rfl (by kernel_rfl) (fun _ _ _ h => h) (Or.inl ⟨by rfl, ?_⟩) ?_ ?_   -- move
                  rotate_left
                  · intro w'
                    go_simp
                    with_reducible rfl
                  rotate_left
                  · simp only [Act.put, List.setIfInBounds_toArray, List.set_cons_zero, List.set_cons_succ]
                    rfl
                  refine pure_ (i := 2) (N := some 108) (v := ?_) (a' := ?_) #[true, true, true, false, false, false, false, false, false, false, false, false] rfl rfl (by kernel_rfl) (fun _ _ _ h => h) (Or.inl ⟨by rfl, ?_⟩) ?_ ?_   -- nilCheck
                  rotate_left
                  · intro w'
                    go_simp
                    with_reducible rfl
                  rotate_left
                  · simp only [Act.put, List.setIfInBounds_toArray, List.set_cons_zero, List.set_cons_succ]
                    rfl
                  refine pure_ (i := 3) (N := some 109) (v := ?_) (a' := ?_) #[true, true, true, true, false, false, false, false, false, false, false, false] rfl rfl (by kernel_rfl) (fun _ _ _ h => h) (Or.inl ⟨by rfl, ?_⟩) ?_ ?_   -- fieldAddr
                  rotate_left
                  · intro w'
                    go_simp
                    with_reducible rfl
                  rotate_left
                  · simp only [Act.put, List.setIfInBounds_toArray, List.set_cons_zero, List.set_cons_succ]
                    rfl
                  refine take_ (i := 4) (N := some 110) (v := ?_) (a' := ?_) #[true, true, true, true, true, false, false, false, false, false, false, false] rfl rfl (by kernel_rfl) (fun _ _ _ h => h) (Or.inl ⟨by rfl, ?_⟩) hHeld ?_ ?_   -- Go.Op.load 33 (Go.Operand.tmp 109)
                  rotate_left
                  · rintro w' ⟨s0, s1, s2, s3, s4, s5⟩
                    go_simp
                    with_reducible rfl
                  rotate_left
                  · simp only [Act.put, List.setIfInBounds_toArray, List.set_cons_zero, List.set_cons_succ]
                    rfl
                  refine take_ (i := 5) (N := some 111) (v := ?_) (a' := ?_) #[true, true, true, true, true, true, false, false, false, false, false, false] rfl rfl (by kernel_rfl) (fun _ _ _ h => h) (Or.inl ⟨by rfl, ?_⟩) hHeld ?_ ?_   -- Go.Op.load 31 (Go.Operand.tmp 16)
                  rotate_left
                  · rintro w' ⟨s0, s1, s2, s3, s4, s5⟩
                    go_simp
                    with_reducible rfl
                  rotate_left
                  · simp only [Act.put, List.setIfInBounds_toArray, List.set_cons_zero, List.set_cons_succ]
                    rfl
                  refine one_ (i := 6) (N := some 112) #[true, true, true, true, true, true, true, false, false, false, false, false] rfl rfl (by kernel_rfl) (by decide) (fun K hK => ?_)   -- Go.Op.call { callee := Go.Callee.value (Go.Operand.func 38), args := #[Go.Operand.tmp 111], argTypes := #[31] 
                  refine goes_ Try.func38 (by kernel_rfl) rfl #[.agg #[.int .u64 x.f0, .int .u64 x.f1, .int .u8 x.f2, .string x.f3, .slice A4 x.f4.length c4]] (by rfl) rfl rfl (by simp only [List.map_toArray, List.map_cons, List.map_nil]; rfl) ?_
                  refine (own_any x A4 c4 _ (Kd.C_drew (Kd.F_now HFa.out)) (by omega)).mono ?_
                  rintro e w6 ⟨v6, rfl, hv6, hb6⟩
                  have HB6 := Lib.hid (below_then (below_drew (Below.refl wa.heap.size wa)) (Nat.le_refl _) hb6)
                  have HV6 := Lib.hid (G_mono hv6 (ok' := fun b => wa.heap.size ≤ b) (fun b hb => hb))
                  obtain ⟨Av6, cv6, rfl, hl6⟩ := G_slice hv6
                  clear hv6 hb6
                  refine ⟨_, rfl, ?_⟩
                  refine hK.out _ _ (HS _ (Fr.of_below HB6.out _)) (fun hHeld => ?_)
                  clear hK K
                  refine norm_ (a' := ?_) ?_ ?_
                  rotate_left
                  · show Act.put _ (some 112) _ = _
                    simp only [Act.put, List.setIfInBounds_toArray, List.set_cons_zero, List.set_cons_succ]
                    rfl
                  refine one_ (i := 7) (N := some 113) #[true, true, true, true, true, true, true, true, false, false, false, false] rfl rfl (by kernel_rfl) (by decide) (fun K hK => ?_)   -- Go.Op.buildSlice 33 1 #[(0, Go.Operand.tmp 112)]
                  refine value_ (by rfl) rfl (by go_simp; exact ⟨rfl, rfl⟩) ?_
                  refine hK.out _ _ (HS _ ((Fr.of_below HB6.out _).alloc _)) (fun hHeld => ?_)
                  clear hK K
                  refine norm_ (a' := ?_) ?_ ?_
                  rotate_left
                  · show Act.put _ (some 113) _ = _
                    simp only [Act.put, List.setIfInBounds_toArray, List.set_cons_zero, List.set_cons_succ]
                    rfl
                  refine one_ (i := 8) (N := some 114) #[true, true, true, true, true, true, true, true, true, false, false, false] rfl rfl (by kernel_rfl) (by decide) (fun K hK => ?_)   -- Go.Op.call { callee := Go.Callee.builtin Go.Builtin.append, args := #[Go.Operand.tmp 110, Go.Operand.tmp 113],
                  have hs6 : wa.heap.size ≤ w6.heap.size := HB6.out.size
                  refine G_append_step k31 (by rfl) (.tmp 110) (.tmp 113) 33 31 _ 64 rfl Try.underlying33 ent_info rfl (by decide) (.slice A1 (n + k') c1) (st.l.take n ++ xs.take k') x _ (fun b => ((ok b ∧ b ≠ g) ∨ N4 ≤ b) ∧ some b ≠ (Value.slice Ap k' cp).ownBlock) (fun b => wa.heap.size ≤ b) rfl rfl (k31_mkF w6 _ x hl6 (G_F HV6.out)) (fun b hb => ⟨⟨.inr (by omega), fun he => by have := HPow.out b he; omega⟩, fun he => by have := HOwn.out b he; omega⟩) (fun b hb => ⟨.inr (by omega), fun he => by have := HPow.out b he; omega⟩) (G_below HGa.out HB6.out) (by rw [List.length_append, List.length_take, List.length_take]; omega) ?_
                  intro v7 w7 hG7 hg7 hat7 hnew7
                  have HF7 := Lib.hid ((Fr.of_below HB6.out (fun b => some b = (Value.slice A1 (n + k') c1).ownBlock)).then_grown hg7 (fun b hb => .inl hb.symm))
                  have HG7 := Lib.hid hG7
                  have HAt7 := Lib.hid hat7
                  have HFN := Lib.hid (show Fr wa w7 (fun b => N4 ≤ b) from by
                    by_cases hk0 : k' = 0
                    · have hlv := H0'.out hk0
                      have hlen0 : (st.l.take n ++ xs.take k').length = n := by rw [hk0, List.take_zero, List.append_nil, List.length_take]; omega
                      have := (hnew7 A (by rw [hlv, hlen0])).1
                      exact (Fr.of_below HB6.out _).then_grown this (fun b hb => by cases hb)
                    · exact (Fr.of_below HB6.out _).then_grown hg7 (fun b hb => .inl (HN'.out (by omega) b hb)))
                  have HNew := Lib.hid (show ∀ b, v7.ownBlock = some b → N4 ≤ b from fun b hb => by
                    by_cases hk0 : k' = 0
                    · have hlv := H0'.out hk0
                      have hlen0 : (st.l.take n ++ xs.take k').length = n := by rw [hk0, List.take_zero, List.append_nil, List.length_take]; omega
                      obtain ⟨b', h1, h2⟩ := (hnew7 A (by rw [hlv, hlen0])).2
                      rw [h1] at hb
                      injection hb with hb
                      omega
                    · rcases HAt7.out with h | ⟨b', h1, h2⟩
                      · exact HN'.out (by omega) b (h ▸ hb)
                      · rw [h1] at hb
                        injection hb with hb
                        omega)
                  obtain ⟨A7, cap7, hv7, _⟩ := G_slice hG7
                  have hL7 : (st.l.take n ++ xs.take k' ++ [x]).length = n + (k' + 1) := by rw [List.length_append, List.length_append, List.length_take, List.length_take, List.length_singleton]; omega
                  rw [hL7] at hv7
                  subst hv7
                  clear hat7 hg7 hG7 hnew7 hL7
                  refine hK.out _ _ (HS _ HF7.out) (fun hHeld => ?_)
                  clear hK K
                  refine norm_ (a' := ?_) ?_ ?_
                  rotate_left
                  · show Act.put _ (some 114) _ = _
                    simp only [Act.put, List.setIfInBounds_toArray, List.set_cons_zero, List.set_cons_succ]
                    rfl
                  refine pure_ (i := 9) (N := some 115) (v := ?_) (a' := ?_) #[true, true, true, true, true, true, true, true, true, true, false, false] rfl rfl (by kernel_rfl) (fun _ _ _ h => h) (Or.inl ⟨by rfl, ?_⟩) ?_ ?_   -- nilCheck
                  rotate_left
                  · intro w'
                    go_simp
                    with_reducible rfl
                  rotate_left
                  · simp only [Act.put, List.setIfInBounds_toArray, List.set_cons_zero, List.set_cons_succ]
                    rfl
                  refine pure_ (i := 10) (N := some 116) (v := ?_) (a' := ?_) #[true, true, true, true, true, true, true, true, true, true, true, false] rfl rfl (by kernel_rfl) (fun _ _ _ h => h) (Or.inl ⟨by rfl, ?_⟩) ?_ ?_   -- fieldAddr
                  rotate_left
                  · intro w'
                    go_simp
                    with_reducible rfl
                  rotate_left
                  · simp only [Act.put, List.setIfInBounds_toArray, List.set_cons_zero, List.set_cons_succ]
                    rfl
                  refine last_ (i := 11) (N := none) #[true, true, true, true, true, true, true, true, true, true, true, true] rfl rfl (by kernel_rfl) (by decide) (fun K hK => ?_)   -- Go.Op.store 33 (Go.Operand.tmp 116) (Go.Operand.tmp 114)
                  have c0 := blk_cell (HF7.out.blk hgl HBg.out)
                  have f0' := blk_frozen (HF7.out.blk hgl HBg.out)
                  refine skip_ (by rfl) rfl (by go_simp; rfl) ?_
                  refine hK.out _ _ ?_
                  clear hK K c0 f0'
                  refine done_ (by kernel_rfl) ?_
                  have hs7 : wa.heap.size ≤ w7.heap.size := HF7.out.size
                  have HBox8 := Lib.hid (blk_far (HF7.out.blk hbl HBox.out) (p := ⟨g, 3, none⟩) (by dsimp only; omega) (.slice A7 (n + (k' + 1)) cap7))
                  have HBg8 := Lib.hid (show (w7.setCell ⟨g, 3, none⟩ (.slice A7 (n + (k' + 1)) cap7)).heap[g]? = some (.cells #[.int .u64 st.index, .int .u64 st.term, cf4, .slice A7 (n + (k' + 1)) cap7] 70 (0, 0)) from blk_set (HF7.out.blk hgl HBg.out) 3 _)
                  have hng : ∀ {q : Prop}, ¬ (((ok g ∧ g ≠ g) ∨ N4 ≤ g) ∧ q) := fun h => by rcases h.1 with h | h; exact h.2 rfl; omega
                  have HG8 := Lib.hid (G_bound (G_set HG7.out (p := ⟨g, 3, none⟩) hng (.slice A7 (n + (k' + 1)) cap7)))
                  have HP8 := Lib.hid (G_mono (ok' := fun b => N4 ≤ b ∧ some b ≠ (Value.slice A7 (n + (k' + 1)) cap7).ownBlock) (G_set (G_fr (G_bound HPa.out) HF7.out (fun b hb he => hb.1.2 he)) (p := ⟨g, 3, none⟩) (by dsimp only; intro h; have := h.1.1; omega) (.slice A7 (n + (k' + 1)) cap7)) (fun b hb => ⟨hb.1.1, fun he => by
                    rcases HAt7.out with h | ⟨b', h1, h2⟩
                    · exact hb.1.2 (he.trans h)
                    · rw [h1] at he
                      injection he with he
                      have := hb.2
                      omega⟩))
                  have HFa8 := Lib.hid (show Fr wa (w7.setCell ⟨g, 3, none⟩ (.slice A7 (n + (k' + 1)) cap7)) (fun b => N4 ≤ b ∨ b = g) from Fr.setCell (HFN.out.mono (fun _ _ h => .inl h)) (p := ⟨g, 3, none⟩) (.inl (.inr rfl)) _)
                  have HF48 := Lib.hid (show Fr w4 (w7.setCell ⟨g, 3, none⟩ (.slice A7 (n + (k' + 1)) cap7)) (fun b => b = g) from HFrA.out.trans HFa8.out (fun b hb => by rcases hb with hb | hb; exact .inr (by omega); exact .inl hb))
                  have HFx8 := Lib.hid (F_fr HFa.out HFa8.out (fun b hb he => by rcases he with he | he; have := hb.2; omega; exact hg (he ▸ hb.1)))
                  have hs8 : w7.heap.size = (w7.setCell ⟨g, 3, none⟩ (.slice A7 (n + (k' + 1)) cap7)).heap.size := by simp
                  clear HS hHeld hng
                  generalize w7.setCell ⟨g, 3, none⟩ (.slice A7 (n + (k' + 1)) cap7) = w8 at *
                  have b0 := blk_cell HBox8.out 0
                  have b1' := blk_cell HBox8.out 1
                  have b2' := blk_cell HBox8.out 2
                  have b3 := blk_cell HBox8.out 3
                  have b4 := blk_cell HBox8.out 4
                  simp only [List.getElem?_toArray, List.getElem?_cons_succ, List.getElem?_cons_zero] at b0 b1' b2' b3 b4
                  go_wp2_with fail
                  refine (own_any x A4 c4 _ (Kd.F_now HFx8.out) (by omega)).mono ?_
                  clear b0 b1' b2' b3 b4
                  rintro e w9 ⟨v9, rfl, hv9, hb9⟩
                  have HB9 := Lib.hid hb9
                  have HV9 := Lib.hid hv9
                  obtain ⟨Av9, cv9, rfl, hl9⟩ := G_slice hv9
                  clear hv9 hb9
                  have hs9 : w8.heap.size ≤ w9.heap.size := HB9.out.size
                  have hl64 : ((xs.take k').length + 1) * 64 ≤ 140737488355328 := by rw [List.length_take]; omega
                  go_wp2_with (at_builtin; refine G_append k31 rfl (.tmp 117) (.tmp 120) 33 31 _ 64 rfl Try.underlying33 ent_info rfl (by decide) (.slice Ap k' cp) (xs.take k') x _ (fun b => N4 ≤ b ∧ some b ≠ (Value.slice A7 (n + (k' + 1)) cap7).ownBlock) (fun b => w8.heap.size ≤ b) rfl rfl (k31_mkF w9 _ x hl9 (G_F HV9.out)) (fun b hb => ⟨⟨by omega, fun he => by have := G_lt HG8.out b he.symm; omega⟩, fun he => by have := HPow.out b he; omega⟩) (fun b hb => ⟨by omega, fun he => by have := G_lt HG8.out b he.symm; omega⟩) (G_below HP8.out HB9.out) hl64 ?_; intro v10 w10 hG10 hg10 hat10 _)
                  have HF10 : Fr w8 w10 (fun b => some b = (Value.slice Ap k' cp).ownBlock) := (Fr.of_below HB9.out _).then_grown hg10 (fun b hb => .inl hb.symm)
                  refine ⟨⟨k' + 1, by omega, by simp, .slice A7 (n + (k' + 1)) cap7, HF10.blk (fun he => by have := HPow.out g he; omega) HBg8.out, ?_, HTk.out ▸ hG10, fun h => absurd h (Nat.succ_ne_zero _), fun _ => HNew.out, HF48.out.trans HF10 (fun b hb => .inr (by have := HPow.out b hb; omega))⟩, by simp [intOf]; omega⟩
                  rw [HTk.out, ← List.append_assoc]
                  refine G_mono (G_fr HG8.out HF10 (fun b hb => hb.1.2)) (fun b hb => ⟨hb.1.1, fun he => ?_⟩)
                  rcases hat10 with h | ⟨b', h1, h2⟩
                  · exact hb.1.2 (he.trans h)
                  · rw [h1] at he
                    injection he with he
                    have := hb.2
                    omega
                · obtain rfl : k' = m := by omega
                  have hE0 := G_ent HXr.out 0 (by omega)
                  simp only [Nat.add_zero, Nat.zero_mul, HXf.out] at hE0
                  obtain ⟨b2, off2, _, _, hbe, _, e0, _⟩ := hE0
                  injection hbe with hbe
                  injection hbe with hb2 ho2 _
                  subst hb2 ho2
                  have e0' : wr.cell? ⟨b1, off1, none⟩ = some (.int .u64 f0) := e0
                  clear e0
                  go_wp2_with fail
                  go_ret3
                  obtain ⟨lv', hb', hG', hP', _, hN', hFr'⟩ := HRel.out
                  have htm : xs.take k' = xs := by rw [← hxl]; exact List.take_length
                  rw [htm] at hG' hP'
                  refine ⟨_, rfl, ⟨lv', ⟨⟨cf4, hb', ?_⟩, ?_⟩, ?_, ?_⟩, ?_⟩
                  · refine RV_mono (RV_fr HCf4.out hFr' (fun b hb he => hb.1.2.1 he)) (fun b hb => ⟨.inl hb.1.1, hb.1.2.1, fun he => ?_⟩)
                    have h1 := hN' (by omega) b he.symm
                    have h2 := hb.2
                    omega
                  · exact G_mono hG' (fun b hb => by rcases hb.1 with h | h; exact ⟨.inl h.1, h.2⟩; exact ⟨.inr (by omega), by omega⟩)
                  · exact (Fr.of_below HB4.out _).trans hFr' (fun b hb => .inl (.inl hb))
                  · intro b hb
                    have := hN' (by omega) b hb
                    exact .inr (by omega)
                  · exact G_mono hP' (fun b hb => ⟨by have := hb.1; omega, by have := hb.1; omega⟩)
      · obtain rfl : k = es.length := by omega
        have HS : ∀ w', Fr wr w' (fun _ => False) → (fun w' => w'.cell? ⟨g, 0, none⟩ = some (.int .u64 st.index)) w' := fun w' hf => hf.cell (fun h => h) r0
        have p0 : ¬ 0 < es.length - es.length := by omega
        clear r0
        go_wp2_with fail
        refine start_ (n := 26) (S := (fun w' => w'.cell? ⟨g, 0, none⟩ = some (.int .u64 st.index))) (ds := []) #[false, false, false, false, false, false, false, false, false, false, false, false, false, false, false, false, false, false, false, false, false, false, false, false, false, false] (by kernel_rfl) rfl rfl (by exact HS _ (Fr.refl wr _).drew) (fun hHeld => ?_)
        refine pure_ (i := 0) (N := some 43) (v := ?_) (a' := ?_) #[true, false, false, false, false, false, false, false, false, false, false, false, false, false, false, false, false, false, false, false, false, false, false, false, false, false] rfl rfl (by kernel_rfl) (fun _ _ _ h => h) (Or.inl ⟨by rfl, ?_⟩) ?_ ?_   -- move
        rotate_left
        · intro w'
          go_simp
          with_reducible rfl
        rotate_left
        · simp only [Act.put, List.setIfInBounds_toArray, List.set_cons_zero, List.set_cons_succ]
          rfl
        refine pure_ (i := 1) (N := some 44) (v := ?_) (a' := ?_) #[true, true, false, false, false, false, false, false, false, false, false, false, false, false, false, false, false, false, false, false, false, false, false, false, false, false] rfl rfl (by kernel_rfl) (fun _ _ _ h => h) (Or.inl ⟨by rfl, ?_⟩) ?_ ?_   -- call
        rotate_left
        · intro w'
          go_simp
          with_reducible rfl
        rotate_left
        · simp only [Act.put, List.setIfInBounds_toArray, List.set_cons_zero, List.set_cons_succ]
          rfl
        refine pure_ (i := 2) (N := some 45) (v := ?_) (a' := ?_) #[true, true, true, false, false, false, false, false, false, false, false, false, false, false, false, false, false, false, false, false, false, false, false, false, false, false] rfl rfl (by kernel_rfl) (fun _ _ _ h => h) (Or.inl ⟨by rfl, ?_⟩) ?_ ?_   -- binOp
        rotate_left
        · intro w'
          go_simp
          with_reducible rfl
        rotate_left
        · simp only [Act.put, List.setIfInBounds_toArray, List.set_cons_zero, List.set_cons_succ]
          rfl
        refine pure_ (i := 3) (N := some 46) (v := ?_) (a' := ?_) #[true, true, true, true, false, false, false, false, false, false, false, false, false, false, false, false, false, false, false, false, false, false, false, false, false, false] rfl rfl (by kernel_rfl) (fun _ _ _ h => h) (Or.inl ⟨by rfl, ?_⟩) ?_ ?_   -- move
        rotate_left
        · intro w'
          go_simp
          with_reducible rfl
        rotate_left
        · simp only [Act.put, List.setIfInBounds_toArray, List.set_cons_zero, List.set_cons_succ]
          rfl
        refine pure_ (i := 4) (N := some 47) (v := undef) (a' := ?_) #[true, true, true, true, true, false, false, false, false, false, false, false, false, false, false, false, false, false, false, false, false, false, false, false, false, false] rfl rfl (by kernel_rfl) (fun _ _ _ h => h) (Or.inr ⟨by rfl, rfl⟩) ?_ ?_   -- off: move
        rotate_left
        · simp only [Act.put, List.setIfInBounds_toArray, List.set_cons_zero, List.set_cons_succ]
          rfl
        refine pure_ (i := 5) (N := some 48) (v := undef) (a' := ?_) #[true, true, true, true, true, true, false, false, false, false, false, false, false, false, false, false, false, false, false, false, false, false, false, false, false, false] rfl rfl (by kernel_rfl) (fun _ _ _ h => h) (Or.inr ⟨by rfl, rfl⟩) ?_ ?_   -- off: indexAddr
        rotate_left
        · simp only [Act.put, List.setIfInBounds_toArray, List.set_cons_zero, List.set_cons_succ]
          rfl
        refine pure_ (i := 6) (N := some 49) (v := undef) (a' := ?_) #[true, true, true, true, true, true, true, false, false, false, false, false, false, false, false, false, false, false, false, false, false, false, false, false, false, false] rfl rfl (by kernel_rfl) (fun _ _ _ h => h) (Or.inr ⟨by rfl, rfl⟩) ?_ ?_   -- off: fieldAddr
        rotate_left
        · simp only [Act.put, List.setIfInBounds_toArray, List.set_cons_zero, List.set_cons_succ]
          rfl
        refine pure_ (i := 7) (N := some 50) (v := undef) (a' := ?_) #[true, true, true, true, true, true, true, true, false, false, false, false, false, false, false, false, false, false, false, false, false, false, false, false, false, false] rfl rfl (by kernel_rfl) (fun _ _ _ h => h) (Or.inr ⟨by rfl, rfl⟩) ?_ ?_   -- off: load
        rotate_left
        · simp only [Act.put, List.setIfInBounds_toArray, List.set_cons_zero, List.set_cons_succ]
          rfl
        refine pure_ (i := 8) (N := some 51) (v := undef) (a' := ?_) #[true, true, true, true, true, true, true, true, true, false, false, false, false, false, false, false, false, false, false, false, false, false, false, false, false, false] rfl rfl (by kernel_rfl) (fun _ _ _ h => h) (Or.inr ⟨by rfl, rfl⟩) ?_ ?_   -- off: move
        rotate_left
        · simp only [Act.put, List.setIfInBounds_toArray, List.set_cons_zero, List.set_cons_succ]
          rfl
        refine pure_ (i := 9) (N := some 52) (v := undef) (a' := ?_) #[true, true, true, true, true, true, true, true, true, true, false, false, false, false, false, false, false, false, false, false, false, false, false, false, false, false] rfl rfl (by kernel_rfl) (fun _ _ _ h => h) (Or.inr ⟨by rfl, rfl⟩) ?_ ?_   -- off: nilCheck
        rotate_left
        · simp only [Act.put, List.setIfInBounds_toArray, List.set_cons_zero, List.set_cons_succ]
          rfl
        refine pure_ (i := 10) (N := some 53) (v := undef) (a' := ?_) #[true, true, true, true, true, true, true, true, true, true, true, false, false, false, false, false, false, false, false, false, false, false, false, false, false, false] rfl rfl (by kernel_rfl) (fun _ _ _ h => h) (Or.inr ⟨by rfl, rfl⟩) ?_ ?_   -- off: fieldAddr
        rotate_left
        · simp only [Act.put, List.setIfInBounds_toArray, List.set_cons_zero, List.set_cons_succ]
          rfl
        refine pure_ (i := 11) (N := some 54) (v := undef) (a' := ?_) #[true, true, true, true, true, true, true, true, true, true, true, true, false, false, false, false, false, false, false, false, false, false, false, false, false, false] rfl rfl (by kernel_rfl) (fun _ _ _ h => h) (Or.inr ⟨by rfl, rfl⟩) ?_ ?_   -- off: load
        rotate_left
        · simp only [Act.put, List.setIfInBounds_toArray, List.set_cons_zero, List.set_cons_succ]
          rfl
        refine pure_ (i := 12) (N := some 55) (v := undef) (a' := ?_) #[true, true, true, true, true, true, true, true, true, true, true, true, true, false, false, false, false, false, false, false, false, false, false, false, false, false] rfl rfl (by kernel_rfl) (fun _ _ _ h => h) (Or.inr ⟨by rfl, rfl⟩) ?_ ?_   -- off: binOp
        rotate_left
        · simp only [Act.put, List.setIfInBounds_toArray, List.set_cons_zero, List.set_cons_succ]
          rfl
        refine pure_ (i := 13) (N := some 56) (v := undef) (a' := ?_) #[true, true, true, true, true, true, true, true, true, true, true, true, true, true, false, false, false, false, false, false, false, false, false, false, false, false] rfl rfl (by kernel_rfl) (fun _ _ _ h => h) (Or.inr ⟨by rfl, rfl⟩) ?_ ?_   -- off: move
        rotate_left
        · simp only [Act.put, List.setIfInBounds_toArray, List.set_cons_zero, List.set_cons_succ]
          rfl
        refine pure_ (i := 14) (N := some 57) (v := undef) (a' := ?_) #[true, true, true, true, true, true, true, true, true, true, true, true, true, true, true, false, false, false, false, false, false, false, false, false, false, false] rfl rfl (by kernel_rfl) (fun _ _ _ h => h) (Or.inr ⟨by rfl, rfl⟩) ?_ ?_   -- off: move
        rotate_left
        · simp only [Act.put, List.setIfInBounds_toArray, List.set_cons_zero, List.set_cons_succ]
          rfl
        refine pure_ (i := 15) (N := some 58) (v := undef) (a' := ?_) #[true, true, true, true, true, true, true, true, true, true, true, true, true, true, true, true, false, false, false, false, false, false, false, false, false, false] rfl rfl (by kernel_rfl) (fun _ _ _ h => h) (Or.inr ⟨by rfl, rfl⟩) ?_ ?_   -- off: move
        rotate_left
        · simp only [Act.put, List.setIfInBounds_toArray, List.set_cons_zero, List.set_cons_succ]
          rfl
        refine pure_ (i := 16) (N := some 59) (v := undef) (a' := ?_) #[true, true, true, true, true, true, true, true, true, true, true, true, true, true, true, true, true, false, false, false, false, false, false, false, false, false] rfl rfl (by kernel_rfl) (fun _ _ _ h => h) (Or.inr ⟨by rfl, rfl⟩) ?_ ?_   -- off: indexAddr
        rotate_left
        · simp only [Act.put, List.setIfInBounds_toArray, List.set_cons_zero, List.set_cons_succ]
          rfl
        refine pure_ (i := 17) (N := some 60) (v := undef) (a' := ?_) #[true, true, true, true, true, true, true, true, true, true, true, true, true, true, true, true, true, true, false, false, false, false, false, false, false, false] rfl rfl (by kernel_rfl) (fun _ _ _ h => h) (Or.inr ⟨by rfl, rfl⟩) ?_ ?_   -- off: fieldAddr
        rotate_left
        · simp only [Act.put, List.setIfInBounds_toArray, List.set_cons_zero, List.set_cons_succ]
          rfl
        refine pure_ (i := 18) (N := some 61) (v := undef) (a' := ?_) #[true, true, true, true, true, true, true, true, true, true, true, true, true, true, true, true, true, true, true, false, false, false, false, false, false, false] rfl rfl (by kernel_rfl) (fun _ _ _ h => h) (Or.inr ⟨by rfl, rfl⟩) ?_ ?_   -- off: load
        rotate_left
        · simp only [Act.put, List.setIfInBounds_toArray, List.set_cons_zero, List.set_cons_succ]
          rfl
        refine pure_ (i := 19) (N := some 62) (v := undef) (a' := ?_) #[true, true, true, true, true, true, true, true, true, true, true, true, true, true, true, true, true, true, true, true, false, false, false, false, false, false] rfl rfl (by kernel_rfl) (fun _ _ _ h => h) (Or.inr ⟨by rfl, rfl⟩) ?_ ?_   -- off: move
        rotate_left
        · simp only [Act.put, List.setIfInBounds_toArray, List.set_cons_zero, List.set_cons_succ]
          rfl
        refine pure_ (i := 20) (N := some 63) (v := undef) (a' := ?_) #[true, true, true, true, true, true, true, true, true, true, true, true, true, true, true, true, true, true, true, true, true, false, false, false, false, false] rfl rfl (by kernel_rfl) (fun _ _ _ h => h) (Or.inr ⟨by rfl, rfl⟩) ?_ ?_   -- off: indexAddr
        rotate_left
        · simp only [Act.put, List.setIfInBounds_toArray, List.set_cons_zero, List.set_cons_succ]
          rfl
        refine pure_ (i := 21) (N := some 64) (v := undef) (a' := ?_) #[true, true, true, true, true, true, true, true, true, true, true, true, true, true, true, true, true, true, true, true, true, true, false, false, false, false] rfl rfl (by kernel_rfl) (fun _ _ _ h => h) (Or.inr ⟨by rfl, rfl⟩) ?_ ?_   -- off: fieldAddr
        rotate_left
        · simp only [Act.put, List.setIfInBounds_toArray, List.set_cons_zero, List.set_cons_succ]
          rfl
        refine pure_ (i := 22) (N := some 65) (v := undef) (a' := ?_) #[true, true, true, true, true, true, true, true, true, true, true, true, true, true, true, true, true, true, true, true, true, true, true, false, false, false] rfl rfl (by kernel_rfl) (fun _ _ _ h => h) (Or.inr ⟨by rfl, rfl⟩) ?_ ?_   -- off: load
        rotate_left
        · simp only [Act.put, List.setIfInBounds_toArray, List.set_cons_zero, List.set_cons_succ]
          rfl
        refine one_ (i := 23) (N := some 66) #[true, true, true, true, true, true, true, true, true, true, true, true, true, true, true, true, true, true, true, true, true, true, true, true, false, false] rfl rfl (by kernel_rfl) (by decide) (fun K hK => ?_)   -- off: Go.Op.call { callee := Go.Callee.value (Go.Operand.func 32), args := #[Go.Operand.tmp 57, Go.Operand.tmp 61, G
        refine off_ (by rfl) ?_
        refine hK.out _ _ hHeld (fun hHeld => ?_)
        clear hK K
        refine norm_ (a' := ?_) ?_ ?_
        rotate_left
        · show Act.put _ (some 66) _ = _
          simp only [Act.put, List.setIfInBounds_toArray, List.set_cons_zero, List.set_cons_succ]
          rfl
        refine pure_ (i := 24) (N := some 67) (v := undef) (a' := ?_) #[true, true, true, true, true, true, true, true, true, true, true, true, true, true, true, true, true, true, true, true, true, true, true, true, true, false] rfl rfl (by kernel_rfl) (fun _ _ _ h => h) (Or.inr ⟨by rfl, rfl⟩) ?_ ?_   -- off: pick
        rotate_left
        · simp only [Act.put, List.setIfInBounds_toArray, List.set_cons_zero, List.set_cons_succ]
          rfl
        refine pure_ (i := 25) (N := some 68) (v := ?_) (a' := ?_) #[true, true, true, true, true, true, true, true, true, true, true, true, true, true, true, true, true, true, true, true, true, true, true, true, true, true] rfl rfl (by kernel_rfl) (fun _ _ _ h => h) (Or.inl ⟨by rfl, ?_⟩) ?_ ?_   -- pick
        rotate_left
        · intro w'
          go_simp
          with_reducible rfl
        rotate_left
        · simp only [Act.put, List.setIfInBounds_toArray, List.set_cons_zero, List.set_cons_succ]
          rfl
        refine done_ (by kernel_rfl) ?_
        clear HS hHeld
        have hpe := HP.out
        unfold LS.put at hpe
        rw [HD.out es.length HSk.out (fun h => absurd h (Nat.lt_irrefl _)), List.drop_length] at hpe
        simp only at hpe
        subst hpe
        go_wp2_with fail
        go_ret3
        exact ⟨_, rfl, (H.out.left (below_drew HBr.out)), G_nil _ _ _ _⟩
  | false =>
    clear c0
    go_enter Try.func11, Try.ntmps11
    go_wp2_with fail
    refine HT.out.mono ?_
    rintro e w1 ⟨rfl, hb⟩
    have HB := Lib.hid hb
    clear hb
    go_wp2_with fail
    refine (HM.out _ HB.out).mono ?_
    rintro e w2 ⟨rfl, hb⟩
    have HB2 := Lib.hid (below_then HB.out HB.out.size hb)
    rw [hm]
    clear hb
    go_wp2_with fail
    have HL2 := Lib.hid (H.out.below HB2.out)
    have HE2 := Lib.hid (G_below HE.out HB2.out)
    have hw2 := HB2.out.size
    go_loopw [3] (fun v wr => ∃ k : Nat, k ≤ es.length ∧ G k31 31 wr (fun b => oke b ∧ b < w.heap.size) v (es.drop k) ∧ (∀ j (hj : j < es.length), j < k → st.skip es[j] = true) ∧ Below w.heap.size w wr)
      (fun v _ => lenOf v)
    case atStart => exact ⟨0, Nat.zero_le _, HE2.out, fun _ _ h => by omega, HB2.out⟩
    case round =>
      obtain ⟨k, hk, hv, hsk, hB⟩ := hrel
      have HV := Lib.hid hv
      have HSk := Lib.hid hsk
      have HBr := Lib.hid hB
      have HLr := Lib.hid (H.out.below hB)
      have hld : (es.drop k).length = es.length - k := by simp
      obtain ⟨Av, cv, hve, hcv⟩ := G_slice hv
      rw [hld] at hve hcv
      subst hve
      obtain ⟨⟨cf, hbg, _⟩, _⟩ := HLr.out
      have r0 := blk_cell hbg 0
      simp only [List.getElem?_toArray, List.getElem?_cons_zero] at r0
      clear hv hsk hB hbg
      by_cases hlt : k < es.length
      · have hE0 := G_ent HV.out 0 (by omega)
        simp only [List.getElem_drop, Nat.add_zero, Nat.zero_mul] at hE0
        obtain ⟨b1, off1, A4, c4, rfl, hokb, e0, e1, e2, e3, e4, hl4, hF4⟩ := hE0
        clear e2 e3 e4 hl4 hF4 hokb
        have p0 : 0 < es.length - k := by omega
        by_cases hi : es[k].f0 ≤ st.index
        · have hskk : st.skip es[k] = true := by simp [LS.skip, hi]
          have hn1 : (es.drop k).drop 1 = es.drop (k + 1) := by rw [List.drop_drop]
          have HG1 := Lib.hid (hn1 ▸ G_drop HV.out (m := 1) (by omega))
          clear e1
          generalize es[k].f0 = f0 at *
          have HS : ∀ w', Fr wr w' (fun _ => False) → (fun w' => w'.cell? ⟨b1, off1, none⟩ = some (.int .u64 f0) ∧ w'.cell? ⟨g, 0, none⟩ = some (.int .u64 st.index)) w' := fun w' hf => ⟨hf.cell (fun h => h) e0, hf.cell (fun h => h) r0⟩
          clear e0 r0
          go_wp2_with fail
          refine start_ (n := 26) (S := (fun w' => w'.cell? ⟨b1, off1, none⟩ = some (.int .u64 f0) ∧ w'.cell? ⟨g, 0, none⟩ = some (.int .u64 st.index))) (ds := []) #[false, false, false, false, false, false, false, false, false, false, false, false, false, false, false, false, false, false, false, false, false, false, false, false, false, false] (by kernel_rfl) rfl rfl (by exact HS _ (Fr.refl wr _).drew) (fun hHeld => ?_)
          refine pure_ (i := 0) (N := some 43) (v := ?_) (a' := ?_) #[true, false, false, false, false, false, false, false, false, false, false, false, false, false, false, false, false, false, false, false, false, false, false, false, false, false] rfl rfl (by kernel_rfl) (fun _ _ _ h => h) (Or.inl ⟨by rfl, ?_⟩) ?_ ?_   -- move
          rotate_left
          · intro w'
            go_simp
            with_reducible rfl
          rotate_left
          · simp only [Act.put, List.setIfInBounds_toArray, List.set_cons_zero, List.set_cons_succ]
            rfl
          refine pure_ (i := 1) (N := some 44) (v := ?_) (a' := ?_) #[true, true, false, false, false, false, false, false, false, false, false, false, false, false, false, false, false, false, false, false, false, false, false, false, false, false] rfl rfl (by kernel_rfl) (fun _ _ _ h => h) (Or.inl ⟨by rfl, ?_⟩) ?_ ?_   -- call
          rotate_left
          · intro w'
            go_simp
            with_reducible rfl
          rotate_left
          · simp only [Act.put, List.setIfInBounds_toArray, List.set_cons_zero, List.set_cons_succ]
            rfl
          refine pure_ (i := 2) (N := some 45) (v := ?_) (a' := ?_) #[true, true, true, false, false, false, false, false, false, false, false, false, false, false, false, false, false, false, false, false, false, false, false, false, false, false] rfl rfl (by kernel_rfl) (fun _ _ _ h => h) (Or.inl ⟨by rfl, ?_⟩) ?_ ?_   -- binOp
          rotate_left
          · intro w'
            go_simp
            with_reducible rfl
          rotate_left
          · simp only [Act.put, List.setIfInBounds_toArray, List.set_cons_zero, List.set_cons_succ]
            rfl
          refine pure_ (i := 3) (N := some 46) (v := ?_) (a' := ?_) #[true, true, true, true, false, false, false, false, false, false, false, false, false, false, false, false, false, false, false, false, false, false, false, false, false, false] rfl rfl (by kernel_rfl) (fun _ _ _ h => h) (Or.inl ⟨by rfl, ?_⟩) ?_ ?_   -- move
          rotate_left
          · intro w'
            go_simp
            with_reducible rfl
          rotate_left
          · simp only [Act.put, List.setIfInBounds_toArray, List.set_cons_zero, List.set_cons_succ]
            rfl
          refine pure_ (i := 4) (N := some 47) (v := ?_) (a' := ?_) #[true, true, true, true, true, false, false, false, false, false, false, false, false, false, false, false, false, false, false, false, false, false, false, false, false, false] rfl rfl (by kernel_rfl) (fun _ _ _ h => h) (Or.inl ⟨by rfl, ?_⟩) ?_ ?_   -- move
          rotate_left
          · intro w'
            go_simp
            with_reducible rfl
          rotate_left
          · simp only [Act.put, List.setIfInBounds_toArray, List.set_cons_zero, List.set_cons_succ]
            rfl
          refine pure_ (i := 5) (N := some 48) (v := ?_) (a' := ?_) #[true, true, true, true, true, true, false, false, false, false, false, false, false, false, false, false, false, false, false, false, false, false, false, false, false, false] rfl rfl (by kernel_rfl) (fun _ _ _ h => h) (Or.inl ⟨by rfl, ?_⟩) ?_ ?_   -- indexAddr
          rotate_left
          · intro w'
            go_simp
            with_reducible rfl
          rotate_left
          · simp only [Act.put, List.setIfInBounds_toArray, List.set_cons_zero, List.set_cons_succ]
            rfl
          refine pure_ (i := 6) (N := some 49) (v := ?_) (a' := ?_) #[true, true, true, true, true, true, true, false, false, false, false, false, false, false, false, false, false, false, false, false, false, false, false, false, false, false] rfl rfl (by kernel_rfl) (fun _ _ _ h => h) (Or.inl ⟨by rfl, ?_⟩) ?_ ?_   -- fieldAddr
          rotate_left
          · intro w'
            go_simp
            with_reducible rfl
          rotate_left
          · simp only [Act.put, List.setIfInBounds_toArray, List.set_cons_zero, List.set_cons_succ]
            rfl
          refine pure_ (i := 8) (N := some 51) (v := ?_) (a' := ?_) #[true, true, true, true, true, true, true, false, true, false, false, false, false, false, false, false, false, false, false, false, false, false, false, false, false, false] rfl rfl (by kernel_rfl) (fun _ _ _ h => h) (Or.inl ⟨by rfl, ?_⟩) ?_ ?_   -- move
          rotate_left
          · intro w'
            go_simp
            with_reducible rfl
          rotate_left
          · simp only [Act.put, List.setIfInBounds_toArray, List.set_cons_zero, List.set_cons_succ]
            rfl
          refine pure_ (i := 9) (N := some 52) (v := ?_) (a' := ?_) #[true, true, true, true, true, true, true, false, true, true, false, false, false, false, false, false, false, false, false, false, false, false, false, false, false, false] rfl rfl (by kernel_rfl) (fun _ _ _ h => h) (Or.inl ⟨by rfl, ?_⟩) ?_ ?_   -- nilCheck
          rotate_left
          · intro w'
            go_simp
            with_reducible rfl
          rotate_left
          · simp only [Act.put, List.setIfInBounds_toArray, List.set_cons_zero, List.set_cons_succ]
            rfl
          refine pure_ (i := 10) (N := some 53) (v := ?_) (a' := ?_) #[true, true, true, true, true, true, true, false, true, true, true, false, false, false, false, false, false, false, false, false, false, false, false, false, false, false] rfl rfl (by kernel_rfl) (fun _ _ _ h => h) (Or.inl ⟨by rfl, ?_⟩) ?_ ?_   -- fieldAddr
          rotate_left
          · intro w'
            go_simp
            with_reducible rfl
          rotate_left
          · simp only [Act.put, List.setIfInBounds_toArray, List.set_cons_zero, List.set_cons_succ]
            rfl
          refine take_ (i := 7) (N := some 50) (v := ?_) (a' := ?_) #[true, true, true, true, true, true, true, true, true, true, true, false, false, false, false, false, false, false, false, false, false, false, false, false, false, false] rfl rfl (by kernel_rfl) (fun _ _ _ h => h) (Or.inl ⟨by rfl, ?_⟩) hHeld ?_ ?_   -- Go.Op.load 27 (Go.Operand.tmp 49)
          rotate_left
          · rintro w' ⟨s0, s1⟩
            go_simp
            with_reducible rfl
          rotate_left
          · simp only [Act.put, List.setIfInBounds_toArray, List.set_cons_zero, List.set_cons_succ]
            rfl
          refine take_ (i := 11) (N := some 54) (v := ?_) (a' := ?_) #[true, true, true, true, true, true, true, true, true, true, true, true, false, false, false, false, false, false, false, false, false, false, false, false, false, false] rfl rfl (by kernel_rfl) (fun _ _ _ h => h) (Or.inl ⟨by rfl, ?_⟩) hHeld ?_ ?_   -- Go.Op.load 27 (Go.Operand.tmp 53)
          rotate_left
          · rintro w' ⟨s0, s1⟩
            go_simp
            with_reducible rfl
          rotate_left
          · simp only [Act.put, List.setIfInBounds_toArray, List.set_cons_zero, List.set_cons_succ]
            rfl
          refine pure_ (i := 12) (N := some 55) (v := ?_) (a' := ?_) #[true, true, true, true, true, true, true, true, true, true, true, true, true, false, false, false, false, false, false, false, false, false, false, false, false, false] rfl rfl (by kernel_rfl) (fun _ _ _ h => h) (Or.inl ⟨by rfl, ?_⟩) ?_ ?_   -- binOp
          rotate_left
          · intro w'
            go_simp
            with_reducible rfl
          rotate_left
          · simp only [Act.put, List.setIfInBounds_toArray, List.set_cons_zero, List.set_cons_succ]
            rfl
          refine pure_ (i := 13) (N := some 56) (v := ?_) (a' := ?_) #[true, true, true, true, true, true, true, true, true, true, true, true, true, true, false, false, false, false, false, false, false, false, false, false, false, false] rfl rfl (by kernel_rfl) (fun _ _ _ h => h) (Or.inl ⟨by rfl, ?_⟩) ?_ ?_   -- move
          rotate_left
          · intro w'
            go_simp
            with_reducible rfl
          rotate_left
          · simp only [Act.put, List.setIfInBounds_toArray, List.set_cons_zero, List.set_cons_succ]
            rfl
          refine pure_ (i := 14) (N := some 57) (v := undef) (a' := ?_) #[true, true, true, true, true, true, true, true, true, true, true, true, true, true, true, false, false, false, false, false, false, false, false, false, false, false] rfl rfl (by kernel_rfl) (fun _ _ _ h => h) (Or.inr ⟨by rfl, rfl⟩) ?_ ?_   -- off: move
          rotate_left
          · simp only [Act.put, List.setIfInBounds_toArray, List.set_cons_zero, List.set_cons_succ]
            rfl
          refine pure_ (i := 15) (N := some 58) (v := undef) (a' := ?_) #[true, true, true, true, true, true, true, true, true, true, true, true, true, true, true, true, false, false, false, false, false, false, false, false, false, false] rfl rfl (by kernel_rfl) (fun _ _ _ h => h) (Or.inr ⟨by rfl, rfl⟩) ?_ ?_   -- off: move
          rotate_left
          · simp only [Act.put, List.setIfInBounds_toArray, List.set_cons_zero, List.set_cons_succ]
            rfl
          refine pure_ (i := 16) (N := some 59) (v := undef) (a' := ?_) #[true, true, true, true, true, true, true, true, true, true, true, true, true, true, true, true, true, false, false, false, false, false, false, false, false, false] rfl rfl (by kernel_rfl) (fun _ _ _ h => h) (Or.inr ⟨by rfl, rfl⟩) ?_ ?_   -- off: indexAddr
          rotate_left
          · simp only [Act.put, List.setIfInBounds_toArray, List.set_cons_zero, List.set_cons_succ]
            rfl
          refine pure_ (i := 17) (N := some 60) (v := undef) (a' := ?_) #[true, true, true, true, true, true, true, true, true, true, true, true, true, true, true, true, true, true, false, false, false, false, false, false, false, false] rfl rfl (by kernel_rfl) (fun _ _ _ h => h) (Or.inr ⟨by rfl, rfl⟩) ?_ ?_   -- off: fieldAddr
          rotate_left
          · simp only [Act.put, List.setIfInBounds_toArray, List.set_cons_zero, List.set_cons_succ]
            rfl
          refine pure_ (i := 18) (N := some 61) (v := undef) (a' := ?_) #[true, true, true, true, true, true, true, true, true, true, true, true, true, true, true, true, true, true, true, false, false, false, false, false, false, false] rfl rfl (by kernel_rfl) (fun _ _ _ h => h) (Or.inr ⟨by rfl, rfl⟩) ?_ ?_   -- off: load
          rotate_left
          · simp only [Act.put, List.setIfInBounds_toArray, List.set_cons_zero, List.set_cons_succ]
            rfl
          refine pure_ (i := 19) (N := some 62) (v := undef) (a' := ?_) #[true, true, true, true, true, true, true, true, true, true, true, true, true, true, true, true, true, true, true, true, false, false, false, false, false, false] rfl rfl (by kernel_rfl) (fun _ _ _ h => h) (Or.inr ⟨by rfl, rfl⟩) ?_ ?_   -- off: move
          rotate_left
          · simp only [Act.put, List.setIfInBounds_toArray, List.set_cons_zero, List.set_cons_succ]
            rfl
          refine pure_ (i := 20) (N := some 63) (v := undef) (a' := ?_) #[true, true, true, true, true, true, true, true, true, true, true, true, true, true, true, true, true, true, true, true, true, false, false, false, false, false] rfl rfl (by kernel_rfl) (fun _ _ _ h => h) (Or.inr ⟨by rfl, rfl⟩) ?_ ?_   -- off: indexAddr
          rotate_left
          · simp only [Act.put, List.setIfInBounds_toArray, List.set_cons_zero, List.set_cons_succ]
            rfl
          refine pure_ (i := 21) (N := some 64) (v := undef) (a' := ?_) #[true, true, true, true, true, true, true, true, true, true, true, true, true, true, true, true, true, true, true, true, true, true, false, false, false, false] rfl rfl (by kernel_rfl) (fun _ _ _ h => h) (Or.inr ⟨by rfl, rfl⟩) ?_ ?_   -- off: fieldAddr
          rotate_left
          · simp only [Act.put, List.setIfInBounds_toArray, List.set_cons_zero, List.set_cons_succ]
            rfl
          refine pure_ (i := 22) (N := some 65) (v := undef) (a' := ?_) #[true, true, true, true, true, true, true, true, true, true, true, true, true, true, true, true, true, true, true, true, true, true, true, false, false, false] rfl rfl (by kernel_rfl) (fun _ _ _ h => h) (Or.inr ⟨by rfl, rfl⟩) ?_ ?_   -- off: load
          rotate_left
          · simp only [Act.put, List.setIfInBounds_toArray, List.set_cons_zero, List.set_cons_succ]
            rfl
          refine one_ (i := 23) (N := some 66) #[true, true, true, true, true, true, true, true, true, true, true, true, true, true, true, true, true, true, true, true, true, true, true, true, false, false] rfl rfl (by kernel_rfl) (by decide) (fun K hK => ?_)   -- off: Go.Op.call { callee := Go.Callee.value (Go.Operand.func 32), args := #[Go.Operand.tmp 57, Go.Operand.tmp 61, G
          refine off_ (by rfl) ?_
          refine hK.out _ _ hHeld (fun hHeld => ?_)
          clear hK K
          refine norm_ (a' := ?_) ?_ ?_
          rotate_left
          · show Act.put _ (some 66) _ = _
            simp only [Act.put, List.setIfInBounds_toArray, List.set_cons_zero, List.set_cons_succ]
            rfl
          refine pure_ (i := 24) (N := some 67) (v := ?_) (a' := ?_) #[true, true, true, true, true, true, true, true, true, true, true, true, true, true, true, true, true, true, true, true, true, true, true, true, true, false] rfl rfl (by kernel_rfl) (fun _ _ _ h => h) (Or.inl ⟨by rfl, ?_⟩) ?_ ?_   -- pick
          rotate_left
          · intro w'
            go_simp
            with_reducible rfl
          rotate_left
          · simp only [Act.put, List.setIfInBounds_toArray, List.set_cons_zero, List.set_cons_succ]
            rfl
          refine pure_ (i := 25) (N := some 68) (v := ?_) (a' := ?_) #[true, true, true, true, true, true, true, true, true, true, true, true, true, true, true, true, true, true, true, true, true, true, true, true, true, true] rfl rfl (by kernel_rfl) (fun _ _ _ h => h) (Or.inl ⟨by rfl, ?_⟩) ?_ ?_   -- pick
          rotate_left
          · intro w'
            go_simp
            with_reducible rfl
          rotate_left
          · simp only [Act.put, List.setIfInBounds_toArray, List.set_cons_zero, List.set_cons_succ]
            rfl
          refine done_ (by kernel_rfl) ?_
          clear HS hHeld
          have p1 : 1 ≤ es.length - k := by omega
          go_wp2_with fail
          refine ⟨⟨k + 1, by omega, ?_, ?_, below_drew HBr.out⟩, by simp only [lenOf]; omega⟩
          · have := HG1.out
            rw [Option.map_some, add_off] at this
            exact G_drew this
          · intro j hj hjk
            by_cases h : j < k
            · exact HSk.out j hj h
            · obtain rfl : j = k := by omega
              exact hskk
        · have hn1 : (es.drop k).drop 1 = es.drop (k + 1) := by rw [List.drop_drop]
          have HG1 := Lib.hid (hn1 ▸ G_drop HV.out (m := 1) (by omega))
          have HXk := Lib.hid (show es[k] = es[k] from rfl)
          have hx0 : ¬ es[k].f0 ≤ st.index := hi
          have HFt := Lib.hid (fits_any (HLr.out.below (below_drew (Below.refl _ _))) HO.out es[k].f0 es[k].f1)
          have hskk : st.skip es[k] = st.fits es[k].f0 es[k].f1 := by simp [LS.skip, hi]
          have HXi := Lib.hid hx0
          clear hx0 HXk
          generalize hfb : st.fits es[k].f0 es[k].f1 = fb at *
          generalize hf0 : es[k].f0 = f0 at *
          generalize hf1 : es[k].f1 = f1 at *
          have HS : ∀ w', Fr wr w' (fun _ => False) → (fun w' => w'.cell? ⟨b1, off1, none⟩ = some (.int .u64 f0) ∧ w'.cell? ⟨b1, off1 + 1, none⟩ = some (.int .u64 f1) ∧ w'.cell? ⟨g, 0, none⟩ = some (.int .u64 st.index)) w' := fun w' hf => ⟨hf.cell (fun h => h) e0, hf.cell (fun h => h) e1, hf.cell (fun h => h) r0⟩
          clear e0 e1 r0
          go_wp2_with fail
          have hi' : ¬ f0 ≤ st.index := by have := HXi.out; omega
          refine start_ (n := 26) (S := (fun w' => w'.cell? ⟨b1, off1, none⟩ = some (.int .u64 f0) ∧ w'.cell? ⟨b1, off1 + 1, none⟩ = some (.int .u64 f1) ∧ w'.cell? ⟨g, 0, none⟩ = some (.int .u64 st.index))) (ds := []) #[false, false, false, false, false, false, false, false, false, false, false, false, false, false, false, false, false, false, false, false, false, false, false, false, false, false] (by kernel_rfl) rfl rfl (by exact HS _ (Fr.refl wr _).drew) (fun hHeld => ?_)
          refine pure_ (i := 0) (N := some 43) (v := ?_) (a' := ?_) #[true, false, false, false, false, false, false, false, false, false, false, false, false, false, false, false, false, false, false, false, false, false, false, false, false, false] rfl rfl (by kernel_rfl) (fun _ _ _ h => h) (Or.inl ⟨by rfl, ?_⟩) ?_ ?_   -- move
          rotate_left
          · intro w'
            go_simp
            with_reducible rfl
          rotate_left
          · simp only [Act.put, List.setIfInBounds_toArray, List.set_cons_zero, List.set_cons_succ]
            rfl
          refine pure_ (i := 1) (N := some 44) (v := ?_) (a' := ?_) #[true, true, false, false, false, false, false, false, false, false, false, false, false, false, false, false, false, false, false, false, false, false, false, false, false, false] rfl rfl (by kernel_rfl) (fun _ _ _ h => h) (Or.inl ⟨by rfl, ?_⟩) ?_ ?_   -- call
          rotate_left
          · intro w'
            go_simp
            with_reducible rfl
          rotate_left
          · simp only [Act.put, List.setIfInBounds_toArray, List.set_cons_zero, List.set_cons_succ]
            rfl
          refine pure_ (i := 2) (N := some 45) (v := ?_) (a' := ?_) #[true, true, true, false, false, false, false, false, false, false, false, false, false, false, false, false, false, false, false, false, false, false, false, false, false, false] rfl rfl (by kernel_rfl) (fun _ _ _ h => h) (Or.inl ⟨by rfl, ?_⟩) ?_ ?_   -- binOp
          rotate_left
          · intro w'
            go_simp
            with_reducible rfl
          rotate_left
          · simp only [Act.put, List.setIfInBounds_toArray, List.set_cons_zero, List.set_cons_succ]
            rfl
          refine pure_ (i := 3) (N := some 46) (v := ?_) (a' := ?_) #[true, true, true, true, false, false, false, false, false, false, false, false, false, false, false, false, false, false, false, false, false, false, false, false, false, false] rfl rfl (by kernel_rfl) (fun _ _ _ h => h) (Or.inl ⟨by rfl, ?_⟩) ?_ ?_   -- move
          rotate_left
          · intro w'
            go_simp
            with_reducible rfl
          rotate_left
          · simp only [Act.put, List.setIfInBounds_toArray, List.set_cons_zero, List.set_cons_succ]
            rfl
          refine pure_ (i := 4) (N := some 47) (v := ?_) (a' := ?_) #[true, true, true, true, true, false, false, false, false, false, false, false, false, false, false, false, false, false, false, false, false, false, false, false, false, false] rfl rfl (by kernel_rfl) (fun _ _ _ h => h) (Or.inl ⟨by rfl, ?_⟩) ?_ ?_   -- move
          rotate_left
          · intro w'
            go_simp
            with_reducible rfl
          rotate_left
          · simp only [Act.put, List.setIfInBounds_toArray, List.set_cons_zero, List.set_cons_succ]
            rfl
          refine pure_ (i := 5) (N := some 48) (v := ?_) (a' := ?_) #[true, true, true, true, true, true, false, false, false, false, false, false, false, false, false, false, false, false, false, false, false, false, false, false, false, false] rfl rfl (by kernel_rfl) (fun _ _ _ h => h) (Or.inl ⟨by rfl, ?_⟩) ?_ ?_   -- indexAddr
          rotate_left
          · intro w'
            go_simp
            with_reducible rfl
          rotate_left
          · simp only [Act.put, List.setIfInBounds_toArray, List.set_cons_zero, List.set_cons_succ]
            rfl
          refine pure_ (i := 6) (N := some 49) (v := ?_) (a' := ?_) #[true, true, true, true, true, true, true, false, false, false, false, false, false, false, false, false, false, false, false, false, false, false, false, false, false, false] rfl rfl (by kernel_rfl) (fun _ _ _ h => h) (Or.inl ⟨by rfl, ?_⟩) ?_ ?_   -- fieldAddr
          rotate_left
          · intro w'
            go_simp
            with_reducible rfl
          rotate_left
          · simp only [Act.put, List.setIfInBounds_toArray, List.set_cons_zero, List.set_cons_succ]
            rfl
          refine pure_ (i := 8) (N := some 51) (v := ?_) (a' := ?_) #[true, true, true, true, true, true, true, false, true, false, false, false, false, false, false, false, false, false, false, false, false, false, false, false, false, false] rfl rfl (by kernel_rfl) (fun _ _ _ h => h) (Or.inl ⟨by rfl, ?_⟩) ?_ ?_   -- move
          rotate_left
          · intro w'
            go_simp
            with_reducible rfl
          rotate_left
          · simp only [Act.put, List.setIfInBounds_toArray, List.set_cons_zero, List.set_cons_succ]
            rfl
          refine pure_ (i := 9) (N := some 52) (v := ?_) (a' := ?_) #[true, true, true, true, true, true, true, false, true, true, false, false, false, false, false, false, false, false, false, false, false, false, false, false, false, false] rfl rfl (by kernel_rfl) (fun _ _ _ h => h) (Or.inl ⟨by rfl, ?_⟩) ?_ ?_   -- nilCheck
          rotate_left
          · intro w'
            go_simp
            with_reducible rfl
          rotate_left
          · simp only [Act.put, List.setIfInBounds_toArray, List.set_cons_zero, List.set_cons_succ]
            rfl
          refine pure_ (i := 10) (N := some 53) (v := ?_) (a' := ?_) #[true, true, true, true, true, true, true, false, true, true, true, false, false, false, false, false, false, false, false, false, false, false, false, false, false, false] rfl rfl (by kernel_rfl) (fun _ _ _ h => h) (Or.inl ⟨by rfl, ?_⟩) ?_ ?_   -- fieldAddr
          rotate_left
          · intro w'
            go_simp
            with_reducible rfl
          rotate_left
          · simp only [Act.put, List.setIfInBounds_toArray, List.set_cons_zero, List.set_cons_succ]
            rfl
          refine take_ (i := 7) (N := some 50) (v := ?_) (a' := ?_) #[true, true, true, true, true, true, true, true, true, true, true, false, false, false, false, false, false, false, false, false, false, false, false, false, false, false] rfl rfl (by kernel_rfl) (fun _ _ _ h => h) (Or.inl ⟨by rfl, ?_⟩) hHeld ?_ ?_   -- Go.Op.load 27 (Go.Operand.tmp 49)
          rotate_left
          · rintro w' ⟨s0, s1, s2⟩
            go_simp
            with_reducible rfl
          rotate_left
          · simp only [Act.put, List.setIfInBounds_toArray, List.set_cons_zero, List.set_cons_succ]
            rfl
          refine take_ (i := 11) (N := some 54) (v := ?_) (a' := ?_) #[true, true, true, true, true, true, true, true, true, true, true, true, false, false, false, false, false, false, false, false, false, false, false, false, false, false] rfl rfl (by kernel_rfl) (fun _ _ _ h => h) (Or.inl ⟨by rfl, ?_⟩) hHeld ?_ ?_   -- Go.Op.load 27 (Go.Operand.tmp 53)
          rotate_left
          · rintro w' ⟨s0, s1, s2⟩
            go_simp
            with_reducible rfl
          rotate_left
          · simp only [Act.put, List.setIfInBounds_toArray, List.set_cons_zero, List.set_cons_succ]
            rfl
          refine pure_ (i := 12) (N := some 55) (v := ?_) (a' := ?_) #[true, true, true, true, true, true, true, true, true, true, true, true, true, false, false, false, false, false, false, false, false, false, false, false, false, false] rfl rfl (by kernel_rfl) (fun _ _ _ h => h) (Or.inl ⟨by rfl, ?_⟩) ?_ ?_   -- binOp
          rotate_left
          · intro w'
            go_simp
            with_reducible rfl
          rotate_left
          · simp only [Act.put, List.setIfInBounds_toArray, List.set_cons_zero, List.set_cons_succ]
            rfl
          refine pure_ (i := 13) (N := some 56) (v := ?_) (a' := ?_) #[true, true, true, true, true, true, true, true, true, true, true, true, true, true, false, false, false, false, false, false, false, false, false, false, false, false] rfl rfl (by kernel_rfl) (fun _ _ _ h => h) (Or.inl ⟨by rfl, ?_⟩) ?_ ?_   -- move
          rotate_left
          · intro w'
            go_simp
            with_reducible rfl
          rotate_left
          · simp only [Act.put, List.setIfInBounds_toArray, List.set_cons_zero, List.set_cons_succ]
            rfl
          refine pure_ (i := 14) (N := some 57) (v := ?_) (a' := ?_) #[true, true, true, true, true, true, true, true, true, true, true, true, true, true, true, false, false, false, false, false, false, false, false, false, false, false] rfl rfl (by kernel_rfl) (fun _ _ _ h => h) (Or.inl ⟨by rfl, ?_⟩) ?_ ?_   -- move
          rotate_left
          · intro w'
            go_simp
            with_reducible rfl
          rotate_left
          · simp only [Act.put, List.setIfInBounds_toArray, List.set_cons_zero, List.set_cons_succ]
            rfl
          refine pure_ (i := 15) (N := some 58) (v := ?_) (a' := ?_) #[true, true, true, true, true, true, true, true, true, true, true, true, true, true, true, true, false, false, false, false, false, false, false, false, false, false] rfl rfl (by kernel_rfl) (fun _ _ _ h => h) (Or.inl ⟨by rfl, ?_⟩) ?_ ?_   -- move
          rotate_left
          · intro w'
            go_simp
            with_reducible rfl
          rotate_left
          · simp only [Act.put, List.setIfInBounds_toArray, List.set_cons_zero, List.set_cons_succ]
            rfl
          refine pure_ (i := 16) (N := some 59) (v := ?_) (a' := ?_) #[true, true, true, true, true, true, true, true, true, true, true, true, true, true, true, true, true, false, false, false, false, false, false, false, false, false] rfl rfl (by kernel_rfl) (fun _ _ _ h => h) (Or.inl ⟨by rfl, ?_⟩) ?_ ?_   -- indexAddr
          rotate_left
          · intro w'
            go_simp
            with_reducible rfl
          rotate_left
          · simp only [Act.put, List.setIfInBounds_toArray, List.set_cons_zero, List.set_cons_succ]
            rfl
          refine pure_ (i := 17) (N := some 60) (v := ?_) (a' := ?_) #[true, true, true, true, true, true, true, true, true, true, true, true, true, true, true, true, true, true, false, false, false, false, false, false, false, false] rfl rfl (by kernel_rfl) (fun _ _ _ h => h) (Or.inl ⟨by rfl, ?_⟩) ?_ ?_   -- fieldAddr
          rotate_left
          · intro w'
            go_simp
            with_reducible rfl
          rotate_left
          · simp only [Act.put, List.setIfInBounds_toArray, List.set_cons_zero, List.set_cons_succ]
            rfl
          refine pure_ (i := 19) (N := some 62) (v := ?_) (a' := ?_) #[true, true, true, true, true, true, true, true, true, true, true, true, true, true, true, true, true, true, false, true, false, false, false, false, false, false] rfl rfl (by kernel_rfl) (fun _ _ _ h => h) (Or.inl ⟨by rfl, ?_⟩) ?_ ?_   -- move
          rotate_left
          · intro w'
            go_simp
            with_reducible rfl
          rotate_left
          · simp only [Act.put, List.setIfInBounds_toArray, List.set_cons_zero, List.set_cons_succ]
            rfl
          refine pure_ (i := 20) (N := some 63) (v := ?_) (a' := ?_) #[true, true, true, true, true, true, true, true, true, true, true, true, true, true, true, true, true, true, false, true, true, false, false, false, false, false] rfl rfl (by kernel_rfl) (fun _ _ _ h => h) (Or.inl ⟨by rfl, ?_⟩) ?_ ?_   -- indexAddr
          rotate_left
          · intro w'
            go_simp
            with_reducible rfl
          rotate_left
          · simp only [Act.put, List.setIfInBounds_toArray, List.set_cons_zero, List.set_cons_succ]
            rfl
          refine pure_ (i := 21) (N := some 64) (v := ?_) (a' := ?_) #[true, true, true, true, true, true, true, true, true, true, true, true, true, true, true, true, true, true, false, true, true, true, false, false, false, false] rfl rfl (by kernel_rfl) (fun _ _ _ h => h) (Or.inl ⟨by rfl, ?_⟩) ?_ ?_   -- fieldAddr
          rotate_left
          · intro w'
            go_simp
            with_reducible rfl
          rotate_left
          · simp only [Act.put, List.setIfInBounds_toArray, List.set_cons_zero, List.set_cons_succ]
            rfl
          refine take_ (i := 18) (N := some 61) (v := ?_) (a' := ?_) #[true, true, true, true, true, true, true, true, true, true, true, true, true, true, true, true, true, true, true, true, true, true, false, false, false, false] rfl rfl (by kernel_rfl) (fun _ _ _ h => h) (Or.inl ⟨by rfl, ?_⟩) hHeld ?_ ?_   -- Go.Op.load 27 (Go.Operand.tmp 60)
          rotate_left
          · rintro w' ⟨s0, s1, s2⟩
            go_simp
            with_reducible rfl
          rotate_left
          · simp only [Act.put, List.setIfInBounds_toArray, List.set_cons_zero, List.set_cons_succ]
            rfl
          refine take_ (i := 22) (N := some 65) (v := ?_) (a' := ?_) #[true, true, true, true, true, true, true, true, true, true, true, true, true, true, true, true, true, true, true, true, true, true, true, false, false, false] rfl rfl (by kernel_rfl) (fun _ _ _ h => h) (Or.inl ⟨by rfl, ?_⟩) hHeld ?_ ?_   -- Go.Op.load 27 (Go.Operand.tmp 64)
          rotate_left
          · rintro w' ⟨s0, s1, s2⟩
            go_simp
            with_reducible rfl
          rotate_left
          · simp only [Act.put, List.setIfInBounds_toArray, List.set_cons_zero, List.set_cons_succ]
            rfl
          refine one_ (i := 23) (N := some 66) #[true, true, true, true, true, true, true, true, true, true, true, true, true, true, true, true, true, true, true, true, true, true, true, true, false, false] rfl rfl (by kernel_rfl) (by decide) (fun K hK => ?_)   -- Go.Op.call { callee := Go.Callee.value (Go.Operand.func 32), args := #[Go.Operand.tmp 57, Go.Operand.tmp 61, G
          refine goes_ Try.func32 (by kernel_rfl) rfl #[.pointer (some ⟨g, 0, none⟩), .int .u64 f0, .int .u64 f1] (by rfl) rfl rfl (by simp only [List.map_toArray, List.map_cons, List.map_nil]; rfl) ?_
          refine HFt.out.mono ?_
          rintro e w3 ⟨rfl, hb3⟩
          have HB3 := Lib.hid (below_then (below_drew (Below.refl wr.heap.size wr)) (Nat.le_refl _) hb3)
          clear hb3
          refine ⟨_, rfl, ?_⟩
          refine hK.out _ _ (HS _ (Fr.of_below HB3.out _)) (fun hHeld => ?_)
          clear hK K
          refine norm_ (a' := ?_) ?_ ?_
          rotate_left
          · show Act.put _ (some 66) _ = _
            simp only [Act.put, List.setIfInBounds_toArray, List.set_cons_zero, List.set_cons_succ]
            rfl
          refine pure_ (i := 24) (N := some 67) (v := ?_) (a' := ?_) #[true, true, true, true, true, true, true, true, true, true, true, true, true, true, true, true, true, true, true, true, true, true, true, true, true, false] rfl rfl (by kernel_rfl) (fun _ _ _ h => h) (Or.inl ⟨by rfl, ?_⟩) ?_ ?_   -- pick
          rotate_left
          · intro w'
            go_simp
            with_reducible rfl
          rotate_left
          · simp only [Act.put, List.setIfInBounds_toArray, List.set_cons_zero, List.set_cons_succ]
            rfl
          refine pure_ (i := 25) (N := some 68) (v := ?_) (a' := ?_) #[true, true, true, true, true, true, true, true, true, true, true, true, true, true, true, true, true, true, true, true, true, true, true, true, true, true] rfl rfl (by kernel_rfl) (fun _ _ _ h => h) (Or.inl ⟨by rfl, ?_⟩) ?_ ?_   -- pick
          rotate_left
          · intro w'
            go_simp
            with_reducible rfl
          rotate_left
          · simp only [Act.put, List.setIfInBounds_toArray, List.set_cons_zero, List.set_cons_succ]
            rfl
          refine done_ (by kernel_rfl) ?_
          clear HS hHeld HFt hi'
          cases fb with
          | true =>
            have p1 : 1 ≤ es.length - k := by omega
            go_wp2_with fail
            refine ⟨⟨k + 1, by omega, ?_, ?_, below_then HBr.out HBr.out.size HB3.out⟩, by simp only [lenOf]; omega⟩
            · have := HG1.out
              rw [Option.map_some, add_off] at this
              exact G_below this HB3.out
            · intro j hj hjk
              by_cases h : j < k
              · exact HSk.out j hj h
              · obtain rfl : j = k := by omega
                exact hskk
          | false =>
            obtain ⟨n, hn, hnl⟩ := HB0.out k hlt HSk.out (by rw [hf0]; have := HXi.out; omega)
            rw [hf0] at hn
            have HDk := Lib.hid (HD.out k HSk.out (fun _ => hskk))
            have hcons : es.drop k = es[k] :: es.drop (k + 1) := List.drop_eq_getElem_cons hlt
            have hput : st.put es = if 4096 < (n : Int) + ((es.length - k : Nat) : Int) then ⟨st, 0, [], 6⟩ else ⟨{ st with l := st.l.take n ++ es.drop k }, f0, es.drop k, 0⟩ := by
              unfold LS.put
              rw [HDk.out, hcons]
              simp only [hf0, hn, Int.toNat_natCast, List.length_drop]
              rw [show ((es.length - (k + 1) : Nat) : Int) + 1 = ((es.length - k : Nat) : Int) by omega]
            have HPut := Lib.hid (HP.out.symm.trans hput)
            have HB3' := Lib.hid (below_then HBr.out HBr.out.size HB3.out)
            have HXs := Lib.hid (G_below HV.out HB3.out)
            have HL3 := Lib.hid (H.out.below HB3'.out)
            have hxf : ∀ (hz : 0 < (es.drop k).length), ((es.drop k)[0]'hz).f0 = f0 := fun _ => by simp only [List.getElem_drop, Nat.add_zero]; exact hf0
            have HXf := Lib.hid hxf
            have H7' := Lib.hid (show ∀ e, e ∈ es.drop k → e.f4.length ≤ 4096 from fun e h => H7.out e (List.mem_of_mem_drop h))
            have hxl : (es.drop k).length = es.length - k := List.length_drop
            have hm4 : es.length - k ≤ 4096 := by omega
            clear hput hcons HDk HV HLr HB3 HG1 hf0 hf1 HSk HBr hskk HXi hn1 hxf HP HD HB0 H7 HM HT HE HE2 HL2
            generalize es.drop k = xs at *
            generalize es.length - k = m at *
            obtain ⟨⟨cf3, hbg3, hcf3⟩, hll3⟩ := HL3.out
            obtain ⟨A, c, rfl, hlc⟩ := G_slice hll3
            have hE0 := G_ent HXs.out 0 (by omega)
            simp only [Nat.add_zero, Nat.zero_mul, HXf.out] at hE0
            obtain ⟨b2, off2, _, _, hbe, _, e0, _⟩ := hE0
            injection hbe with hbe
            injection hbe with hb2 ho2 _
            subst hb2 ho2
            have r0 := blk_cell hbg3 0
            simp only [List.getElem?_toArray, List.getElem?_cons_zero] at r0
            have q0 : IntKind.u64.wrap (f0 - st.index) = f0 - st.index := IntWalk.u64_in _ (by omega)
            have q1 : IntKind.u64.wrap (f0 - st.index - 1) = n := (IntWalk.u64_in _ (by omega)).trans hn
            have q2 : IntKind.u64.wrap (m : Int) = m := IntWalk.u64_in _ (by omega)
            have q3 : IntKind.u64.wrap ((n : Int) + m) = n + m := IntWalk.u64_in _ (by omega)
            have HN := Lib.hid hn
            clear hn hbg3 hcf3 hll3 hi
            go_wp2_with fail
            go_quiet (fail)
            clear e0 r0
            have HB4 := Lib.hid (pw_below_drewN HB3'.out nq)
            have HX4 := Lib.hid (G_drewN HXs.out nq)
            have HL4 := Lib.hid (HL3.out.below (pw_below_drewN (Below.refl _ _) nq))
            clear HB3' HXs HL3
            generalize w3.drewN nq = w4 at *
            by_cases hfull : 4096 < (n : Int) + m
            · have hpe := HPut.out
              rw [if_pos hfull] at hpe
              subst hpe
              have hf' : 4096 < n + m := by omega
              go_wp2
              go_ret3
              exact ⟨_, rfl, (H.out.left HB4.out), G_nil _ _ _ _⟩
            · have hpe := HPut.out
              rw [if_neg hfull] at hpe
              subst hpe
              clear HPut
              have hf' : ¬ 4096 < n + m := by omega
              obtain ⟨⟨cf4, hbg4, hcf4⟩, hll4⟩ := HL4.out
              have c0 := blk_cell hbg4
              have f0' := blk_frozen hbg4
              have HBg4 := Lib.hid hbg4
              have HCf4 := Lib.hid (RV_bound hcf4)
              have hcut := G_take hll4 (m := n) (k := n) hnl (Nat.le_refl _) (by omega)
              have HCut := Lib.hid hcut
              have z1 : (n : Int) ≤ (c : Int) := by omega
              have z2 : n ≤ c := by omega
              clear hbg4 hcf4 hll4 hcut
              go_wp2_with fail
              obtain ⟨N4, hN4⟩ : ∃ N4, w4.heap.size = N4 := ⟨_, rfl⟩
              have hwN : w.heap.size ≤ N4 := by rw [← hN4]; exact HB4.out.size
              have HR0 : StoreRel N4 g ok w4 st cf4 A n xs 0 (.slice none 0 0) (w4.setCell ⟨g, 3, none⟩ (.slice A n n)) :=
                ⟨.slice A n n, blk_set HBg4.out 3 _, by
                  rw [List.take_zero, List.append_nil]
                  exact G_set (G_mono HCut.out (fun b hb => ⟨.inl hb, by simp [Value.ownBlock]⟩)) (p := ⟨g, 3, none⟩) (by dsimp only; rintro ⟨h | h, _⟩; exact h.2 rfl; omega) _, G_nil _ _ _ _, fun _ => rfl, fun h => absurd h (Nat.lt_irrefl _),
                  (Fr.refl w4 (fun b => b = g)).setCell (p := ⟨g, 3, none⟩) (.inl rfl) _⟩
              have HR := Lib.hid HR0
              clear HR0 c0 f0'
              generalize w4.setCell ⟨g, 3, none⟩ (.slice A n n) = w5 at *
              go_loopw [14, 102] (fun pv i wr => ∃ k : Nat, k ≤ m ∧ i = .int .i64 k ∧ StoreRel N4 g ok w4 st cf4 A n xs k pv wr) (fun _ i _ => m - (intOf i).toNat)
              case atStart => exact ⟨0, Nat.zero_le _, rfl, HR.out⟩
              case round =>
                obtain ⟨k', hk', rfl, hrl⟩ := hrel
                have HRel := Lib.hid hrl
                clear hrl
                have hF4r : Fr w4 wr (fun b => b = g) := by obtain ⟨_, _, _, _, _, _, h⟩ := HRel.out; exact h
                have HXr := Lib.hid (G_fr HX4.out hF4r (fun b hb he => hg (he ▸ hb.1)))
                clear hF4r
                by_cases hlt' : k' < m
                · obtain ⟨b2, off2, A4, c4, hbe, _, e0, e1, e2, e3, e4, hl4, hF4⟩ := G_ent HXr.out k' (by omega)
                  injection hbe with hbe
                  injection hbe with hb2 ho2 _
                  subst hb2 ho2
                  have hx7 := H7'.out xs[k'] (List.getElem_mem _)
                  have htk : xs.take (k' + 1) = xs.take k' ++ [xs[k']] := by rw [List.take_succ_eq_append_getElem (by omega)]
                  generalize xs[k'] = x at *
                  have HF4 := Lib.hid hF4
                  have HTk := Lib.hid htk
                  clear hF4 htk
                  have q4 : IntKind.i64.wrap ((k' : Int) + 1) = (k' + 1 : Nat) := IntWalk.i64_in _ (by omega)
                  go_wp2_with fail
                  clear e0 e1 e2 e3 e4
                  obtain ⟨lv', hb', hG', hP', h0', hN', hFr'⟩ := HRel.out
                  obtain ⟨A1, c1, hlv1, _⟩ := G_slice hG'
                  have hlk : (st.l.take n ++ xs.take k').length = n + k' := by rw [List.length_append, List.length_take, List.length_take]; omega
                  rw [hlk] at hlv1
                  subst hlv1
                  have hpl : (xs.take k').length = k' := by rw [List.length_take]; omega
                  obtain ⟨Ap, cp, hpv, _⟩ := G_slice hP'
                  rw [hpl] at hpv
                  subst hpv
                  have hrN : N4 ≤ wr.heap.size := by rw [← hN4]; exact hFr'.size
                  have hgN : g < N4 := by omega
                  have HG' := Lib.hid hG'
                  have HP' := Lib.hid hP'
                  have H0' := Lib.hid h0'
                  have HN' := Lib.hid hN'
                  have HFr' := Lib.hid hFr'
                  have HWa := Lib.hid ((Fr.refl wr (fun _ => False)).alloc (.cells #[.int .u64 x.f0, .int .u64 x.f1, .int .u8 x.f2, .string x.f3, .slice A4 x.f4.length c4] 31))
                  have HBox := Lib.hid (blk_new wr (.cells #[.int .u64 x.f0, .int .u64 x.f1, .int .u8 x.f2, .string x.f3, .slice A4 x.f4.length c4] 31))
                  have hsa : (wr.alloc (.cells #[.int .u64 x.f0, .int .u64 x.f1, .int .u8 x.f2, .string x.f3, .slice A4 x.f4.length c4] 31)).heap.size = wr.heap.size + 1 := World.size_alloc _ _
                  have hown : ∀ b, some b = (Value.slice A1 (n + k') c1).ownBlock → b < wr.heap.size ∧ b ≠ g := fun b hb => ⟨G_lt HG'.out b hb.symm, fun he => by rcases (HG'.out.1 b hb.symm).1 with h | h; exact h.2 he; omega⟩
                  have hpow : ∀ b, some b = (Value.slice Ap k' cp).ownBlock → b < wr.heap.size ∧ N4 ≤ b := fun b hb => ⟨G_lt HP'.out b hb.symm, (HP'.out.1 b hb.symm).1⟩
                  have HOwn := Lib.hid hown
                  have HPow := Lib.hid hpow
                  have HBg := Lib.hid (HWa.out.blk (fun h => h) hb')
                  have HGa := Lib.hid (G_fr HG'.out HWa.out (fun _ _ h => h))
                  have HPa := Lib.hid (G_fr HP'.out HWa.out (fun _ _ h => h))
                  have HFa := Lib.hid (F_fr HF4.out HWa.out (fun _ _ h => h))
                  have HFrA := Lib.hid (HFr'.out.trans HWa.out (fun _ h => h.elim))
                  clear hb' hG' hP' h0' hN' hFr' hlk hpl hown hpow HRel HFr'
                  generalize (wr.alloc (.cells #[.int .u64 x.f0, .int .u64 x.f1, .int .u8 x.f2, .string x.f3, .slice A4 x.f4.length c4] 31)) = wa at *
                  have hgl : ¬ some g = (Value.slice A1 (n + k') c1).ownBlock := fun he => (HOwn.out g he).2 rfl
                  have hbl : ¬ some wr.heap.size = (Value.slice A1 (n + k') c1).ownBlock := fun he => Nat.lt_irrefl _ (HOwn.out _ he).1
                  have b0 := blk_cell HBox.out 0
                  have b1' := blk_cell HBox.out 1
                  have b2' := blk_cell HBox.out 2
                  have b3 := blk_cell HBox.out 3
                  have b4 := blk_cell HBox.out 4
                  have r3 := blk_cell HBg.out 3
                  simp only [List.getElem?_toArray, List.getElem?_cons_succ, List.getElem?_cons_zero] at b0 b1' b2' b3 b4 r3
                  have HS : ∀ w', Fr wa w' (fun b => some b = (Value.slice A1 (n + k') c1).ownBlock) → (fun w' => w'.cell? ⟨g, 3, none⟩ = some (.slice A1 (n + k') c1) ∧ w'.cell? ⟨wr.heap.size, 0, none⟩ = some (.int .u64 x.f0) ∧ w'.cell? ⟨wr.heap.size, 1, none⟩ = some (.int .u64 x.f1) ∧ w'.cell? ⟨wr.heap.size, 2, none⟩ = some (.int .u8 x.f2) ∧ w'.cell? ⟨wr.heap.size, 3, none⟩ = some (.string x.f3) ∧ w'.cell? ⟨wr.heap.size, 4, none⟩ = some (.slice A4 x.f4.length c4)) w' := fun w' hf =>
                    ⟨hf.cell hgl r3, hf.cell hbl b0, hf.cell hbl b1', hf.cell hbl b2', hf.cell hbl b3, hf.cell hbl b4⟩
                  clear b0 b1' b2' b3 b4 r3
                  refine start_ (n := 12) (S := (fun w' => w'.cell? ⟨g, 3, none⟩ = some (.slice A1 (n + k') c1) ∧ w'.cell? ⟨wr.heap.size, 0, none⟩ = some (.int .u64 x.f0) ∧ w'.cell? ⟨wr.heap.size, 1, none⟩ = some (.int .u64 x.f1) ∧ w'.cell? ⟨wr.heap.size, 2, none⟩ = some (.int .u8 x.f2) ∧ w'.cell? ⟨wr.heap.size, 3, none⟩ = some (.string x.f3) ∧ w'.cell? ⟨wr.heap.size, 4, none⟩ = some (.slice A4 x.f4.length c4))) (ds := [11]) #[false, false, false, false, false, false, false, false, false, false, false, false] (by kernel_rfl) rfl rfl (by exact HS _ (Fr.refl wa _).drew) (fun hHeld => ?_)
                  refine pure_ (i := 0) (N := some 106) (v := ?_) (a' := ?_) #[true, false, false, false, false, false, false, false, false, false, false, false] rfl rfl (by kernel_rfl) (fun _ _ _ h => h) (Or.inl ⟨by rfl, ?_⟩) ?_ ?_   -- move
                  rotate_left
                  · intro w'
                    go_simp
                    with_reducible rfl
                  rotate_left
                  · simp only [Act.put, List.setIfInBounds_toArray, List.set_cons_zero, List.set_cons_succ]
                    rfl
                  refine pure_ (i := 1) (N := some 107) (v := ?_) (a' := ?_) #[true, true, false, false, false, false, false, false, false, false, false, false] rfl rfl (by kernel_rfl) (fun _ _ _ h => h) (Or.inl ⟨by rfl, ?_⟩) ?_ ?_   -- move
                  rotate_left
                  · intro w'
                    go_simp
                    with_reducible rfl
                  rotate_left
                  · simp only [Act.put, List.setIfInBounds_toArray, List.set_cons_zero, List.set_cons_succ]
                    rfl
                  refine pure_ (i := 2) (N := some 108) (v := ?_) (a' := ?_) #[true, true, true, false, false, false, false, false, false, false, false, false] rfl rfl (by kernel_rfl) (fun _ _ _ h => h) (Or.inl ⟨by rfl, ?_⟩) ?_ ?_   -- nilCheck
                  rotate_left
                  · intro w'
                    go_simp
                    with_reducible rfl
                  rotate_left
                  · simp only [Act.put, List.setIfInBounds_toArray, List.set_cons_zero, List.set_cons_succ]
                    rfl
                  refine pure_ (i := 3) (N := some 109) (v := ?_) (a' := ?_) #[true, true, true, true, false, false, false, false, false, false, false, false] rfl rfl (by kernel_rfl) (fun _ _ _ h => h) (Or.inl ⟨by rfl, ?_⟩) ?_ ?_   -- fieldAddr
                  rotate_left
                  · intro w'
                    go_simp
                    with_reducible rfl
                  rotate_left
                  · simp only [Act.put, List.setIfInBounds_toArray, List.set_cons_zero, List.set_cons_succ]
                    rfl
                  refine take_ (i := 4) (N := some 110) (v := ?_) (a' := ?_) #[true, true, true, true, true, false, false, false, false, false, false, false] rfl rfl (by kernel_rfl) (fun _ _ _ h => h) (Or.inl ⟨by rfl, ?_⟩) hHeld ?_ ?_   -- Go.Op.load 33 (Go.Operand.tmp 109)
                  rotate_left
                  · rintro w' ⟨s0, s1, s2, s3, s4, s5⟩
                    go_simp
                    with_reducible rfl
                  rotate_left
                  · simp only [Act.put, List.setIfInBounds_toArray, List.set_cons_zero, List.set_cons_succ]
                    rfl
                  refine take_ (i := 5) (N := some 111) (v := ?_) (a' := ?_) #[true, true, true, true, true, true, false, false, false, false, false, false] rfl rfl (by kernel_rfl) (fun _ _ _ h => h) (Or.inl ⟨by rfl, ?_⟩) hHeld ?_ ?_   -- Go.Op.load 31 (Go.Operand.tmp 16)
                  rotate_left
                  · rintro w' ⟨s0, s1, s2, s3, s4, s5⟩
                    go_simp
                    with_reducible rfl
                  rotate_left
                  · simp only [Act.put, List.setIfInBounds_toArray, List.set_cons_zero, List.set_cons_succ]
                    rfl
                  refine one_ (i := 6) (N := some 112) #[true, true, true, true, true, true, true, false, false, false, false, false] rfl rfl (by kernel_rfl) (by decide) (fun K hK => ?_)   -- Go.Op.call { callee := Go.Callee.value (Go.Operand.func 38), args := #[Go.Operand.tmp 111], argTypes := #[31] 
                  refine goes_ Try.func38 (by kernel_rfl) rfl #[.agg #[.int .u64 x.f0, .int .u64 x.f1, .int .u8 x.f2, .string x.f3, .slice A4 x.f4.length c4]] (by rfl) rfl rfl (by simp only [List.map_toArray, List.map_cons, List.map_nil]; rfl) ?_
                  refine (own_any x A4 c4 _ (Kd.C_drew (Kd.F_now HFa.out)) (by omega)).mono ?_
                  rintro e w6 ⟨v6, rfl, hv6, hb6⟩
                  have HB6 := Lib.hid (below_then (below_drew (Below.refl wa.heap.size wa)) (Nat.le_refl _) hb6)
                  have HV6 := Lib.hid (G_mono hv6 (ok' := fun b => wa.heap.size ≤ b) (fun b hb => hb))
                  obtain ⟨Av6, cv6, rfl, hl6⟩ := G_slice hv6
                  clear hv6 hb6
                  refine ⟨_, rfl, ?_⟩
                  refine hK.out _ _ (HS _ (Fr.of_below HB6.out _)) (fun hHeld => ?_)
                  clear hK K
                  refine norm_ (a' := ?_) ?_ ?_
                  rotate_left
                  · show Act.put _ (some 112) _ = _
                    simp only [Act.put, List.setIfInBounds_toArray, List.set_cons_zero, List.set_cons_succ]
                    rfl
                  refine one_ (i := 7) (N := some 113) #[true, true, true, true, true, true, true, true, false, false, false, false] rfl rfl (by kernel_rfl) (by decide) (fun K hK => ?_)   -- Go.Op.buildSlice 33 1 #[(0, Go.Operand.tmp 112)]
                  refine value_ (by rfl) rfl (by go_simp; exact ⟨rfl, rfl⟩) ?_
                  refine hK.out _ _ (HS _ ((Fr.of_below HB6.out _).alloc _)) (fun hHeld => ?_)
                  clear hK K
                  refine norm_ (a' := ?_) ?_ ?_
                  rotate_left
                  · show Act.put _ (some 113) _ = _
                    simp only [Act.put, List.setIfInBounds_toArray, List.set_cons_zero, List.set_cons_succ]
                    rfl
                  refine one_ (i := 8) (N := some 114) #[true, true, true, true, true, true, true, true, true, false, false, false] rfl rfl (by kernel_rfl) (by decide) (fun K hK => ?_)   -- Go.Op.call { callee := Go.Callee.builtin Go.Builtin.append, args := #[Go.Operand.tmp 110, Go.Operand.tmp 113],
                  have hs6 : wa.heap.size ≤ w6.heap.size := HB6.out.size
                  refine G_append_step k31 (by rfl) (.tmp 110) (.tmp 113) 33 31 _ 64 rfl Try.underlying33 ent_info rfl (by decide) (.slice A1 (n + k') c1) (st.l.take n ++ xs.take k') x _ (fun b => ((ok b ∧ b ≠ g) ∨ N4 ≤ b) ∧ some b ≠ (Value.slice Ap k' cp).ownBlock) (fun b => wa.heap.size ≤ b) rfl rfl (k31_mkF w6 _ x hl6 (G_F HV6.out)) (fun b hb => ⟨⟨.inr (by omega), fun he => by have := HPow.out b he; omega⟩, fun he => by have := HOwn.out b he; omega⟩) (fun b hb => ⟨.inr (by omega), fun he => by have := HPow.out b he; omega⟩) (G_below HGa.out HB6.out) (by rw [List.length_append, List.length_take, List.length_take]; omega) ?_
                  intro v7 w7 hG7 hg7 hat7 hnew7
                  have HF7 := Lib.hid ((Fr.of_below HB6.out (fun b => some b = (Value.slice A1 (n + k') c1).ownBlock)).then_grown hg7 (fun b hb => .inl hb.symm))
                  have HG7 := Lib.hid hG7
                  have HAt7 := Lib.hid hat7
                  have HFN := Lib.hid (show Fr wa w7 (fun b => N4 ≤ b) from by
                    by_cases hk0 : k' = 0
                    · have hlv := H0'.out hk0
                      have hlen0 : (st.l.take n ++ xs.take k').length = n := by rw [hk0, List.take_zero, List.append_nil, List.length_take]; omega
                      have := (hnew7 A (by rw [hlv, hlen0])).1
                      exact (Fr.of_below HB6.out _).then_grown this (fun b hb => by cases hb)
                    · exact (Fr.of_below HB6.out _).then_grown hg7 (fun b hb => .inl (HN'.out (by omega) b hb)))
                  have HNew := Lib.hid (show ∀ b, v7.ownBlock = some b → N4 ≤ b from fun b hb => by
                    by_cases hk0 : k' = 0
                    · have hlv := H0'.out hk0
                      have hlen0 : (st.l.take n ++ xs.take k').length = n := by rw [hk0, List.take_zero, List.append_nil, List.length_take]; omega
                      obtain ⟨b', h1, h2⟩ := (hnew7 A (by rw [hlv, hlen0])).2
                      rw [h1] at hb
                      injection hb with hb
                      omega
                    · rcases HAt7.out with h | ⟨b', h1, h2⟩
                      · exact HN'.out (by omega) b (h ▸ hb)
                      · rw [h1] at hb
                        injection hb with hb
                        omega)
                  obtain ⟨A7, cap7, hv7, _⟩ := G_slice hG7
                  have hL7 : (st.l.take n ++ xs.take k' ++ [x]).length = n + (k' + 1) := by rw [List.length_append, List.length_append, List.length_take, List.length_take, List.length_singleton]; omega
                  rw [hL7] at hv7
                  subst hv7
                  clear hat7 hg7 hG7 hnew7 hL7
                  refine hK.out _ _ (HS _ HF7.out) (fun hHeld => ?_)
                  clear hK K
                  refine norm_ (a' := ?_) ?_ ?_
                  rotate_left
                  · show Act.put _ (some 114) _ = _
                    simp only [Act.put, List.setIfInBounds_toArray, List.set_cons_zero, List.set_cons_succ]
                    rfl
                  refine pure_ (i := 9) (N := some 115) (v := ?_) (a' := ?_) #[true, true, true, true, true, true, true, true, true, true, false, false] rfl rfl (by kernel_rfl) (fun _ _ _ h => h) (Or.inl ⟨by rfl, ?_⟩) ?_ ?_   -- nilCheck
                  rotate_left
                  · intro w'
                    go_simp
                    with_reducible rfl
                  rotate_left
                  · simp only [Act.put, List.setIfInBounds_toArray, List.set_cons_zero, List.set_cons_succ]
                    rfl
                  refine pure_ (i := 10) (N := some 116) (v := ?_) (a' := ?_) #[true, true, true, true, true, true, true, true, true, true, true, false] rfl rfl (by kernel_rfl) (fun _ _ _ h => h) (Or.inl ⟨by rfl, ?_⟩) ?_ ?_   -- fieldAddr
                  rotate_left
                  · intro w'
                    go_simp
                    with_reducible rfl
                  rotate_left
                  · simp only [Act.put, List.setIfInBounds_toArray, List.set_cons_zero, List.set_cons_succ]
                    rfl
                  refine last_ (i := 11) (N := none) #[true, true, true, true, true, true, true, true, true, true, true, true] rfl rfl (by kernel_rfl) (by decide) (fun K hK => ?_)   -- Go.Op.store 33 (Go.Operand.tmp 116) (Go.Operand.tmp 114)
                  have c0 := blk_cell (HF7.out.blk hgl HBg.out)
                  have f0' := blk_frozen (HF7.out.blk hgl HBg.out)
                  refine skip_ (by rfl) rfl (by go_simp; rfl) ?_
                  refine hK.out _ _ ?_
                  clear hK K c0 f0'
                  refine done_ (by kernel_rfl) ?_
                  have hs7 : wa.heap.size ≤ w7.heap.size := HF7.out.size
                  have HBox8 := Lib.hid (blk_far (HF7.out.blk hbl HBox.out) (p := ⟨g, 3, none⟩) (by dsimp only; omega) (.slice A7 (n + (k' + 1)) cap7))
                  have HBg8 := Lib.hid (show (w7.setCell ⟨g, 3, none⟩ (.slice A7 (n + (k' + 1)) cap7)).heap[g]? = some (.cells #[.int .u64 st.index, .int .u64 st.term, cf4, .slice A7 (n + (k' + 1)) cap7] 70 (0, 0)) from blk_set (HF7.out.blk hgl HBg.out) 3 _)
                  have hng : ∀ {q : Prop}, ¬ (((ok g ∧ g ≠ g) ∨ N4 ≤ g) ∧ q) := fun h => by rcases h.1 with h | h; exact h.2 rfl; omega
                  have HG8 := Lib.hid (G_bound (G_set HG7.out (p := ⟨g, 3, none⟩) hng (.slice A7 (n + (k' + 1)) cap7)))
                  have HP8 := Lib.hid (G_mono (ok' := fun b => N4 ≤ b ∧ some b ≠ (Value.slice A7 (n + (k' + 1)) cap7).ownBlock) (G_set (G_fr (G_bound HPa.out) HF7.out (fun b hb he => hb.1.2 he)) (p := ⟨g, 3, none⟩) (by dsimp only; intro h; have := h.1.1; omega) (.slice A7 (n + (k' + 1)) cap7)) (fun b hb => ⟨hb.1.1, fun he => by
                    rcases HAt7.out with h | ⟨b', h1, h2⟩
                    · exact hb.1.2 (he.trans h)
                    · rw [h1] at he
                      injection he with he
                      have := hb.2
                      omega⟩))
                  have HFa8 := Lib.hid (show Fr wa (w7.setCell ⟨g, 3, none⟩ (.slice A7 (n + (k' + 1)) cap7)) (fun b => N4 ≤ b ∨ b = g) from Fr.setCell (HFN.out.mono (fun _ _ h => .inl h)) (p := ⟨g, 3, none⟩) (.inl (.inr rfl)) _)
                  have HF48 := Lib.hid (show Fr w4 (w7.setCell ⟨g, 3, none⟩ (.slice A7 (n + (k' + 1)) cap7)) (fun b => b = g) from HFrA.out.trans HFa8.out (fun b hb => by rcases hb with hb | hb; exact .inr (by omega); exact .inl hb))
                  have HFx8 := Lib.hid (F_fr HFa.out HFa8.out (fun b hb he => by rcases he with he | he; have := hb.2; omega; exact hg (he ▸ hb.1)))
                  have hs8 : w7.heap.size = (w7.setCell ⟨g, 3, none⟩ (.slice A7 (n + (k' + 1)) cap7)).heap.size := by simp
                  clear HS hHeld hng
                  generalize w7.setCell ⟨g, 3, none⟩ (.slice A7 (n + (k' + 1)) cap7) = w8 at *
                  have b0 := blk_cell HBox8.out 0
                  have b1' := blk_cell HBox8.out 1
                  have b2' := blk_cell HBox8.out 2
                  have b3 := blk_cell HBox8.out 3
                  have b4 := blk_cell HBox8.out 4
                  simp only [List.getElem?_toArray, List.getElem?_cons_succ, List.getElem?_cons_zero] at b0 b1' b2' b3 b4
                  go_wp2_with fail
                  refine (own_any x A4 c4 _ (Kd.F_now HFx8.out) (by omega)).mono ?_
                  clear b0 b1' b2' b3 b4
                  rintro e w9 ⟨v9, rfl, hv9, hb9⟩
                  have HB9 := Lib.hid hb9
                  have HV9 := Lib.hid hv9
                  obtain ⟨Av9, cv9, rfl, hl9⟩ := G_slice hv9
                  clear hv9 hb9
                  have hs9 : w8.heap.size ≤ w9.heap.size := HB9.out.size
                  have hl64 : ((xs.take k').length + 1) * 64 ≤ 140737488355328 := by rw [List.length_take]; omega
                  go_wp2_with (at_builtin; refine G_append k31 rfl (.tmp 117) (.tmp 120) 33 31 _ 64 rfl Try.underlying33 ent_info rfl (by decide) (.slice Ap k' cp) (xs.take k') x _ (fun b => N4 ≤ b ∧ some b ≠ (Value.slice A7 (n + (k' + 1)) cap7).ownBlock) (fun b => w8.heap.size ≤ b) rfl rfl (k31_mkF w9 _ x hl9 (G_F HV9.out)) (fun b hb => ⟨⟨by omega, fun he => by have := G_lt HG8.out b he.symm; omega⟩, fun he => by have := HPow.out b he; omega⟩) (fun b hb => ⟨by omega, fun he => by have := G_lt HG8.out b he.symm; omega⟩) (G_below HP8.out HB9.out) hl64 ?_; intro v10 w10 hG10 hg10 hat10 _)
                  have HF10 : Fr w8 w10 (fun b => some b = (Value.slice Ap k' cp).ownBlock) := (Fr.of_below HB9.out _).then_grown hg10 (fun b hb => .inl hb.symm)
                  refine ⟨⟨k' + 1, by omega, by simp, .slice A7 (n + (k' + 1)) cap7, HF10.blk (fun he => by have := HPow.out g he; omega) HBg8.out, ?_, HTk.out ▸ hG10, fun h => absurd h (Nat.succ_ne_zero _), fun _ => HNew.out, HF48.out.trans HF10 (fun b hb => .inr (by have := HPow.out b hb; omega))⟩, by simp [intOf]; omega⟩
                  rw [HTk.out, ← List.append_assoc]
                  refine G_mono (G_fr HG8.out HF10 (fun b hb => hb.1.2)) (fun b hb => ⟨hb.1.1, fun he => ?_⟩)
                  rcases hat10 with h | ⟨b', h1, h2⟩
                  · exact hb.1.2 (he.trans h)
                  · rw [h1] at he
                    injection he with he
                    have := hb.2
                    omega
                · obtain rfl : k' = m := by omega
                  have hE0 := G_ent HXr.out 0 (by omega)
                  simp only [Nat.add_zero, Nat.zero_mul, HXf.out] at hE0
                  obtain ⟨b2, off2, _, _, hbe, _, e0, _⟩ := hE0
                  injection hbe with hbe
                  injection hbe with hb2 ho2 _
                  subst hb2 ho2
                  have e0' : wr.cell? ⟨b1, off1, none⟩ = some (.int .u64 f0) := e0
                  clear e0
                  go_wp2_with fail
                  go_ret3
                  obtain ⟨lv', hb', hG', hP', _, hN', hFr'⟩ := HRel.out
                  have htm : xs.take k' = xs := by rw [← hxl]; exact List.take_length
                  rw [htm] at hG' hP'
                  refine ⟨_, rfl, ⟨lv', ⟨⟨cf4, hb', ?_⟩, ?_⟩, ?_, ?_⟩, ?_⟩
                  · refine RV_mono (RV_fr HCf4.out hFr' (fun b hb he => hb.1.2.1 he)) (fun b hb => ⟨.inl hb.1.1, hb.1.2.1, fun he => ?_⟩)
                    have h1 := hN' (by omega) b he.symm
                    have h2 := hb.2
                    omega
                  · exact G_mono hG' (fun b hb => by rcases hb.1 with h | h; exact ⟨.inl h.1, h.2⟩; exact ⟨.inr (by omega), by omega⟩)
                  · exact (Fr.of_below HB4.out _).trans hFr' (fun b hb => .inl (.inl hb))
                  · intro b hb
                    have := hN' (by omega) b hb
                    exact .inr (by omega)
                  · exact G_mono hP' (fun b hb => ⟨by have := hb.1; omega, by have := hb.1; omega⟩)
      · obtain rfl : k = es.length := by omega
        have HS : ∀ w', Fr wr w' (fun _ => False) → (fun w' => w'.cell? ⟨g, 0, none⟩ = some (.int .u64 st.index)) w' := fun w' hf => hf.cell (fun h => h) r0
        have p0 : ¬ 0 < es.length - es.length := by omega
        clear r0
        go_wp2_with fail
        refine start_ (n := 26) (S := (fun w' => w'.cell? ⟨g, 0, none⟩ = some (.int .u64 st.index))) (ds := []) #[false, false, false, false, false, false, false, false, false, false, false, false, false, false, false, false, false, false, false, false, false, false, false, false, false, false] (by kernel_rfl) rfl rfl (by exact HS _ (Fr.refl wr _).drew) (fun hHeld => ?_)
        refine pure_ (i := 0) (N := some 43) (v := ?_) (a' := ?_) #[true, false, false, false, false, false, false, false, false, false, false, false, false, false, false, false, false, false, false, false, false, false, false, false, false, false] rfl rfl (by kernel_rfl) (fun _ _ _ h => h) (Or.inl ⟨by rfl, ?_⟩) ?_ ?_   -- move
        rotate_left
        · intro w'
          go_simp
          with_reducible rfl
        rotate_left
        · simp only [Act.put, List.setIfInBounds_toArray, List.set_cons_zero, List.set_cons_succ]
          rfl
        refine pure_ (i := 1) (N := some 44) (v := ?_) (a' := ?_) #[true, true, false, false, false, false, false, false, false, false, false, false, false, false, false, false, false, false, false, false, false, false, false, false, false, false] rfl rfl (by kernel_rfl) (fun _ _ _ h => h) (Or.inl ⟨by rfl, ?_⟩) ?_ ?_   -- call
        rotate_left
        · intro w'
          go_simp
          with_reducible rfl
        rotate_left
        · simp only [Act.put, List.setIfInBounds_toArray, List.set_cons_zero, List.set_cons_succ]
          rfl
        refine pure_ (i := 2) (N := some 45) (v := ?_) (a' := ?_) #[true, true, true, false, false, false, false, false, false, false, false, false, false, false, false, false, false, false, false, false, false, false, false, false, false, false] rfl rfl (by kernel_rfl) (fun _ _ _ h => h) (Or.inl ⟨by rfl, ?_⟩) ?_ ?_   -- binOp
        rotate_left
        · intro w'
          go_simp
          with_reducible rfl
        rotate_left
        · simp only [Act.put, List.setIfInBounds_toArray, List.set_cons_zero, List.set_cons_succ]
          rfl
        refine pure_ (i := 3) (N := some 46) (v := ?_) (a' := ?_) #[true, true, true, true, false, false, false, false, false, false, false, false, false, false, false, false, false, false, false, false, false, false, false, false, false, false] rfl rfl (by kernel_rfl) (fun _ _ _ h => h) (Or.inl ⟨by rfl, ?_⟩) ?_ ?_   -- move
        rotate_left
        · intro w'
          go_simp
          with_reducible rfl
        rotate_left
        · simp only [Act.put, List.setIfInBounds_toArray, List.set_cons_zero, List.set_cons_succ]
          rfl
        refine pure_ (i := 4) (N := some 47) (v := undef) (a' := ?_) #[true, true, true, true, true, false, false, false, false, false, false, false, false, false, false, false, false, false, false, false, false, false, false, false, false, false] rfl rfl (by kernel_rfl) (fun _ _ _ h => h) (Or.inr ⟨by rfl, rfl⟩) ?_ ?_   -- off: move
        rotate_left
        · simp only [Act.put, List.setIfInBounds_toArray, List.set_cons_zero, List.set_cons_succ]
          rfl
        refine pure_ (i := 5) (N := some 48) (v := undef) (a' := ?_) #[true, true, true, true, true, true, false, false, false, false, false, false, false, false, false, false, false, false, false, false, false, false, false, false, false, false] rfl rfl (by kernel_rfl) (fun _ _ _ h => h) (Or.inr ⟨by rfl, rfl⟩) ?_ ?_   -- off: indexAddr
        rotate_left
        · simp only [Act.put, List.setIfInBounds_toArray, List.set_cons_zero, List.set_cons_succ]
          rfl
        refine pure_ (i := 6) (N := some 49) (v := undef) (a' := ?_) #[true, true, true, true, true, true, true, false, false, false, false, false, false, false, false, false, false, false, false, false, false, false, false, false, false, false] rfl rfl (by kernel_rfl) (fun _ _ _ h => h) (Or.inr ⟨by rfl, rfl⟩) ?_ ?_   -- off: fieldAddr
        rotate_left
        · simp only [Act.put, List.setIfInBounds_toArray, List.set_cons_zero, List.set_cons_succ]
          rfl
        refine pure_ (i := 7) (N := some 50) (v := undef) (a' := ?_) #[true, true, true, true, true, true, true, true, false, false, false, false, false, false, false, false, false, false, false, false, false, false, false, false, false, false] rfl rfl (by kernel_rfl) (fun _ _ _ h => h) (Or.inr ⟨by rfl, rfl⟩) ?_ ?_   -- off: load
        rotate_left
        · simp only [Act.put, List.setIfInBounds_toArray, List.set_cons_zero, List.set_cons_succ]
          rfl
        refine pure_ (i := 8) (N := some 51) (v := undef) (a' := ?_) #[true, true, true, true, true, true, true, true, true, false, false, false, false, false, false, false, false, false, false, false, false, false, false, false, false, false] rfl rfl (by kernel_rfl) (fun _ _ _ h => h) (Or.inr ⟨by rfl, rfl⟩) ?_ ?_   -- off: move
        rotate_left
        · simp only [Act.put, List.setIfInBounds_toArray, List.set_cons_zero, List.set_cons_succ]
          rfl
        refine pure_ (i := 9) (N := some 52) (v := undef) (a' := ?_) #[true, true, true, true, true, true, true, true, true, true, false, false, false, false, false, false, false, false, false, false, false, false, false, false, false, false] rfl rfl (by kernel_rfl) (fun _ _ _ h => h) (Or.inr ⟨by rfl, rfl⟩) ?_ ?_   -- off: nilCheck
        rotate_left
        · simp only [Act.put, List.setIfInBounds_toArray, List.set_cons_zero, List.set_cons_succ]
          rfl
        refine pure_ (i := 10) (N := some 53) (v := undef) (a' := ?_) #[true, true, true, true, true, true, true, true, true, true, true, false, false, false, false, false, false, false, false, false, false, false, false, false, false, false] rfl rfl (by kernel_rfl) (fun _ _ _ h => h) (Or.inr ⟨by rfl, rfl⟩) ?_ ?_   -- off: fieldAddr
        rotate_left
        · simp only [Act.put, List.setIfInBounds_toArray, List.set_cons_zero, List.set_cons_succ]
          rfl
        refine pure_ (i := 11) (N := some 54) (v := undef) (a' := ?_) #[true, true, true, true, true, true, true, true, true, true, true, true, false, false, false, false, false, false, false, false, false, false, false, false, false, false] rfl rfl (by kernel_rfl) (fun _ _ _ h => h) (Or.inr ⟨by rfl, rfl⟩) ?_ ?_   -- off: load
        rotate_left
        · simp only [Act.put, List.setIfInBounds_toArray, List.set_cons_zero, List.set_cons_succ]
          rfl
        refine pure_ (i := 12) (N := some 55) (v := undef) (a' := ?_) #[true, true, true, true, true, true, true, true, true, true, true, true, true, false, false, false, false, false, false, false, false, false, false, false, false, false] rfl rfl (by kernel_rfl) (fun _ _ _ h => h) (Or.inr ⟨by rfl, rfl⟩) ?_ ?_   -- off: binOp
        rotate_left
        · simp only [Act.put, List.setIfInBounds_toArray, List.set_cons_zero, List.set_cons_succ]
          rfl
        refine pure_ (i := 13) (N := some 56) (v := undef) (a' := ?_) #[true, true, true, true, true, true, true, true, true, true, true, true, true, true, false, false, false, false, false, false, false, false, false, false, false, false] rfl rfl (by kernel_rfl) (fun _ _ _ h => h) (Or.inr ⟨by rfl, rfl⟩) ?_ ?_   -- off: move
        rotate_left
        · simp only [Act.put, List.setIfInBounds_toArray, List.set_cons_zero, List.set_cons_succ]
          rfl
        refine pure_ (i := 14) (N := some 57) (v := undef) (a' := ?_) #[true, true, true, true, true, true, true, true, true, true, true, true, true, true, true, false, false, false, false, false, false, false, false, false, false, false] rfl rfl (by kernel_rfl) (fun _ _ _ h => h) (Or.inr ⟨by rfl, rfl⟩) ?_ ?_   -- off: move
        rotate_left
        · simp only [Act.put, List.setIfInBounds_toArray, List.set_cons_zero, List.set_cons_succ]
          rfl
        refine pure_ (i := 15) (N := some 58) (v := undef) (a' := ?_) #[true, true, true, true, true, true, true, true, true, true, true, true, true, true, true, true, false, false, false, false, false, false, false, false, false, false] rfl rfl (by kernel_rfl) (fun _ _ _ h => h) (Or.inr ⟨by rfl, rfl⟩) ?_ ?_   -- off: move
        rotate_left
        · simp only [Act.put, List.setIfInBounds_toArray, List.set_cons_zero, List.set_cons_succ]
          rfl
        refine pure_ (i := 16) (N := some 59) (v := undef) (a' := ?_) #[true, true, true, true, true, true, true, true, true, true, true, true, true, true, true, true, true, false, false, false, false, false, false, false, false, false] rfl rfl (by kernel_rfl) (fun _ _ _ h => h) (Or.inr ⟨by rfl, rfl⟩) ?_ ?_   -- off: indexAddr
        rotate_left
        · simp only [Act.put, List.setIfInBounds_toArray, List.set_cons_zero, List.set_cons_succ]
          rfl
        refine pure_ (i := 17) (N := some 60) (v := undef) (a' := ?_) #[true, true, true, true, true, true, true, true, true, true, true, true, true, true, true, true, true, true, false, false, false, false, false, false, false, false] rfl rfl (by kernel_rfl) (fun _ _ _ h => h) (Or.inr ⟨by rfl, rfl⟩) ?_ ?_   -- off: fieldAddr
        rotate_left
        · simp only [Act.put, List.setIfInBounds_toArray, List.set_cons_zero, List.set_cons_succ]
          rfl
        refine pure_ (i := 18) (N := some 61) (v := undef) (a' := ?_) #[true, true, true, true, true, true, true, true, true, true, true, true, true, true, true, true, true, true, true, false, false, false, false, false, false, false] rfl rfl (by kernel_rfl) (fun _ _ _ h => h) (Or.inr ⟨by rfl, rfl⟩) ?_ ?_   -- off: load
        rotate_left
        · simp only [Act.put, List.setIfInBounds_toArray, List.set_cons_zero, List.set_cons_succ]
          rfl
        refine pure_ (i := 19) (N := some 62) (v := undef) (a' := ?_) #[true, true, true, true, true, true, true, true, true, true, true, true, true, true, true, true, true, true, true, true, false, false, false, false, false, false] rfl rfl (by kernel_rfl) (fun _ _ _ h => h) (Or.inr ⟨by rfl, rfl⟩) ?_ ?_   -- off: move
        rotate_left
        · simp only [Act.put, List.setIfInBounds_toArray, List.set_cons_zero, List.set_cons_succ]
          rfl
        refine pure_ (i := 20) (N := some 63) (v := undef) (a' := ?_) #[true, true, true, true, true, true, true, true, true, true, true, true, true, true, true, true, true, true, true, true, true, false, false, false, false, false] rfl rfl (by kernel_rfl) (fun _ _ _ h => h) (Or.inr ⟨by rfl, rfl⟩) ?_ ?_   -- off: indexAddr
        rotate_left
        · simp only [Act.put, List.setIfInBounds_toArray, List.set_cons_zero, List.set_cons_succ]
          rfl
        refine pure_ (i := 21) (N := some 64) (v := undef) (a' := ?_) #[true, true, true, true, true, true, true, true, true, true, true, true, true, true, true, true, true, true, true, true, true, true, false, false, false, false] rfl rfl (by kernel_rfl) (fun _ _ _ h => h) (Or.inr ⟨by rfl, rfl⟩) ?_ ?_   -- off: fieldAddr
        rotate_left
        · simp only [Act.put, List.setIfInBounds_toArray, List.set_cons_zero, List.set_cons_succ]
          rfl
        refine pure_ (i := 22) (N := some 65) (v := undef) (a' := ?_) #[true, true, true, true, true, true, true, true, true, true, true, true, true, true, true, true, true, true, true, true, true, true, true, false, false, false] rfl rfl (by kernel_rfl) (fun _ _ _ h => h) (Or.inr ⟨by rfl, rfl⟩) ?_ ?_   -- off: load
        rotate_left
        · simp only [Act.put, List.setIfInBounds_toArray, List.set_cons_zero, List.set_cons_succ]
          rfl
        refine one_ (i := 23) (N := some 66) #[true, true, true, true, true, true, true, true, true, true, true, true, true, true, true, true, true, true, true, true, true, true, true, true, false, false] rfl rfl (by kernel_rfl) (by decide) (fun K hK => ?_)   -- off: Go.Op.call { callee := Go.Callee.value (Go.Operand.func 32), args := #[Go.Operand.tmp 57, Go.Operand.tmp 61, G
        refine off_ (by rfl) ?_
        refine hK.out _ _ hHeld (fun hHeld => ?_)
        clear hK K
        refine norm_ (a' := ?_) ?_ ?_
        rotate_left
        · show Act.put _ (some 66) _ = _
          simp only [Act.put, List.setIfInBounds_toArray, List.set_cons_zero, List.set_cons_succ]
          rfl
        refine pure_ (i := 24) (N := some 67) (v := undef) (a' := ?_) #[true, true, true, true, true, true, true, true, true, true, true, true, true, true, true, true, true, true, true, true, true, true, true, true, true, false] rfl rfl (by kernel_rfl) (fun _ _ _ h => h) (Or.inr ⟨by rfl, rfl⟩) ?_ ?_   -- off: pick
        rotate_left
        · simp only [Act.put, List.setIfInBounds_toArray, List.set_cons_zero, List.set_cons_succ]
          rfl
        refine pure_ (i := 25) (N := some 68) (v := ?_) (a' := ?_) #[true, true, true, true, true, true, true, true, true, true, true, true, true, true, true, true, true, true, true, true, true, true, true, true, true, true] rfl rfl (by kernel_rfl) (fun _ _ _ h => h) (Or.inl ⟨by rfl, ?_⟩) ?_ ?_   -- pick
        rotate_left
        · intro w'
          go_simp
          with_reducible rfl
        rotate_left
        · simp only [Act.put, List.setIfInBounds_toArray, List.set_cons_zero, List.set_cons_succ]
          rfl
        refine done_ (by kernel_rfl) ?_
        clear HS hHeld
        have hpe := HP.out
        unfold LS.put at hpe
        rw [HD.out es.length HSk.out (fun h => absurd h (Nat.lt_irrefl _)), List.drop_length] at hpe
        simp only at hpe
        subst hpe
        go_wp2_with fail
        go_ret3
        exact ⟨_, rfl, (H.out.left (below_drew HBr.out)), G_nil _ _ _ _⟩
end Go.Proofs.Ytpnmodkddiljeaa
