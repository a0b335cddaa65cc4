/- Rows that may be cut, begin inside their block, and grow (append), whose elements lead to what is only read. No conditions. -/
import Derived.Test.YtpnmodkddiljeaaWGuard
import Derived.Test.YtpnmodkddiljeaaWNEv
import Derived.Test.YtpnmodkddiljeaaWMore
import Derived.Deep.AppendSrc
namespace Go.Proofs.Ytpnmodkddiljeaa
open Go.RowKit Go.Proofs.YtpnmodkddiljeaaW.PrintWords

/-- The cells xs of n elements; the block may bear more, ahead and behind. -/
def GRow (w : World) (e sz : Nat) (v : Value) (n : Nat) (xs : List Value) : Prop :=
  xs.length = n * sz ∧ ((v = .slice none 0 0 ∧ n = 0) ∨ ∃ g off cap cur, v = .slice (some ⟨g, off, none⟩) n cap ∧ w.heap[g]? = some (.cells cur e (0, 0)) ∧ n ≤ cap ∧ cap ≤ maxLen ∧ off + cap * sz ≤ cur.size ∧ (cur.toList.drop off).take (n * sz) = xs)

section
variable {w w1 : World} {e sz n m : Nat} {v : Value} {xs : List Value}
theorem GRow.nil (w : World) (e sz : Nat) : GRow w e sz (.slice none 0 0) 0 [] := ⟨by simp, .inl ⟨rfl, rfl⟩⟩
theorem GRow.of_own {base : Nat} (h : w.ownsRow base e sz v n xs) : GRow w e sz v n xs := by
  refine ⟨h.1, ?_⟩
  rcases h.2 with h | ⟨g, cap, cur, hv, _, hb, hn, hm, hs, ht⟩
  · exact .inl h
  · exact .inr ⟨g, 0, cap, cur, hv, hb, hn, hm, by omega, by simpa using ht⟩
theorem GRow.move (h : GRow w e sz v n xs) (hm : ∀ k, v.ownBlock = some k → w1.heap[k]? = w.heap[k]?) : GRow w1 e sz v n xs := by
  refine ⟨h.1, ?_⟩
  rcases h.2 with h | ⟨g, off, cap, cur, rfl, hb, r⟩
  · exact .inl h
  · exact .inr ⟨g, off, cap, cur, rfl, (hm g (by simp [Value.ownBlock])).trans hb, r⟩
theorem GRow.lt (h : GRow w e sz v n xs) (k : Nat) (hk : v.ownBlock = some k) : k < w.heap.size := by
  rcases h.2 with ⟨rfl, _⟩ | ⟨g, off, cap, cur, rfl, hb, _⟩
  · simp [Value.ownBlock] at hk
  · have : g = k := by simpa [Value.ownBlock] using hk
    subst this
    exact blk_lt hb
theorem GRow.typed (h : GRow w e sz v n xs) (k : Nat) (hk : v.ownBlock = some k) : ∃ cells, w.heap[k]? = some (.cells cells e (0, 0)) := by
  rcases h.2 with ⟨rfl, _⟩ | ⟨g, off, cap, cur, rfl, hb, _⟩
  · simp [Value.ownBlock] at hk
  · have : g = k := by simpa [Value.ownBlock] using hk
    subst this
    exact ⟨_, hb⟩
theorem GRow.slice (h : GRow w e sz v n xs) : ∃ A c, v = .slice A n c ∧ n ≤ c := by
  rcases h.2 with ⟨rfl, rfl⟩ | ⟨g, off, cap, cur, rfl, _, hn, _⟩
  · exact ⟨none, 0, rfl, Nat.le_refl _⟩
  · exact ⟨_, _, rfl, hn⟩
theorem GRow.max (h : GRow w e sz v n xs) : n ≤ 9223372036854775807 := by
  rcases h.2 with ⟨_, rfl⟩ | ⟨g, off, cap, cur, _, _, hn, hm, _⟩
  · omega
  · simp only [maxLen] at hm; omega
theorem GRow.cells {A : Option Addr} {c : Nat} (h : GRow w e sz (.slice A n c) n xs) {ad : Addr} (hA : A = some ad) : ∀ j u, xs[j]? = some u → w.cell? (ad.add j) = some u := by
  subst hA
  rcases h.2 with ⟨h1, _⟩ | ⟨g, off, cap, cur, hv, hb, hn, _, _, ht⟩
  · cases h1
  · injection hv with h1 _ _
    injection h1 with h1
    subst h1
    intro j u hu
    rw [add_at, cell_of_row w g _ cur e (0, 0) hb]
    rw [← ht, List.getElem?_take] at hu
    split at hu
    · rw [List.getElem?_drop] at hu
      rw [← Array.getElem?_toList]
      exact hu
    · cases hu
theorem GRow.addr {A : Option Addr} {c : Nat} (h : GRow w e sz (.slice A n c) n xs) (hn : 0 < n) : ∃ g off, A = some ⟨g, off, none⟩ := by
  rcases h.2 with ⟨_, h1⟩ | ⟨g, off, cap, cur, hv, _⟩
  · omega
  · injection hv with h1 _ _
    exact ⟨g, off, h1⟩
/-- v[:m], v[:m:k]. -/
theorem GRow.take {A : Option Addr} {c k : Nat} (h : GRow w e sz (.slice A n c) n xs) (hm : m ≤ n) (hk : m ≤ k) (hkc : k ≤ c) : GRow w e sz (.slice A m k) m (xs.take (m * sz)) := by
  refine ⟨by rw [List.length_take, h.1, Nat.min_eq_left (Nat.mul_le_mul_right _ hm)], ?_⟩
  rcases h.2 with ⟨h1, h0⟩ | ⟨g, off, cap, cur, hv, hb, hn, hx, hs, ht⟩
  · injection h1 with h1 h2 h3
    subst h1 h3
    exact .inl ⟨by congr 1 <;> omega, by omega⟩
  · injection hv with h1 h2 h3
    subst h1 h3
    refine .inr ⟨g, off, k, cur, rfl, hb, hk, by omega, ?_, ?_⟩
    · have := Nat.mul_le_mul_right sz hkc; omega
    · rw [← ht, List.take_take, Nat.min_eq_left (Nat.mul_le_mul_right _ hm)]
/-- v[m:]. -/
theorem GRow.drop {A : Option Addr} {c : Nat} (h : GRow w e sz (.slice A n c) n xs) (hm : m ≤ n) : GRow w e sz (.slice (if c = m then A else A.map (·.add (m * sz))) (n - m) (c - m)) (n - m) (xs.drop (m * sz)) := by
  refine ⟨by rw [List.length_drop, h.1, Nat.sub_mul], ?_⟩
  rcases h.2 with ⟨h1, h0⟩ | ⟨g, off, cap, cur, hv, hb, hn, hx, hs, ht⟩
  · injection h1 with h1 h2 h3
    subst h1 h3
    exact .inl ⟨by simp; omega, by omega⟩
  · injection hv with h1 h2 h3
    subst h1 h3
    by_cases hc : c = m
    · subst hc
      have hnm : n = c := by omega
      subst hnm
      rw [if_pos rfl]
      refine .inr ⟨g, off, 0, cur, by simp, hb, by omega, by simp [maxLen], ?_, ?_⟩
      · have := Nat.zero_le (n * sz); omega
      · rw [Nat.sub_self, Nat.zero_mul, List.take_zero, List.drop_of_length_le (by rw [h.1]; exact Nat.le_refl _)]
    · rw [if_neg hc]
      refine .inr ⟨g, off + m * sz, c - m, cur, by simp [add_at], hb, by omega, by omega, ?_, ?_⟩
      · have h5 : m * sz + (c - m) * sz = c * sz := by rw [← Nat.add_mul]; congr 1; omega
        omega
      · rw [← ht, List.drop_take, List.drop_drop, Nat.sub_mul]
end
section
variable {P : Program}
/-- append, whatever is appended. -/
theorem GRow.append (w : World) (t tx ty e : TypeId) (i : TypeInfo) (z : Value) (sz bytes : Nat) (ht : P.underlying t = some (.slice e)) (hi : P.info? e = some i) (hz : i.zero = some z)
    (hsize : i.size = sz) (hby : i.bytes = bytes) (hzs : z.cells.size = sz) (v : Value) (n : Nat) (xs : List Value) (h : GRow w e sz v n xs)
    (x : Value) (m : Nat) (news : List Value) (hs : Src P sz tx x m news w) (h63 : n + m ≤ 9223372036854775807) (hbytes : (n + m) * bytes ≤ 140737488355328) :
    ∃ v' w', (Builtin.append_ #[t, tx] ty #[v, x]).run P w = .ok v' w' ∧ GRow w' e sz v' (n + m) (xs ++ news) ∧ w.grownBy w' v.ownBlock ∧ (v'.ownBlock = v.ownBlock ∨ v'.ownBlock = some w.heap.size) ∧
      (∀ A, v = .slice A n n → 0 < m → w.grownBy w' none ∧ v'.ownBlock = some w.heap.size) := by
  subst hsize
  subst hby
  have hlen : (xs ++ news).length = (n + m) * i.size := by rw [List.length_append, h.1, hs.newsLen, Nat.add_mul]
  have grows : ∀ (b : Option Addr) (cap : Nat), cap < n + m → (Builtin.firstCells i.size n (.slice b n cap)).run P w.drew = .ok xs.toArray w.drew → v = .slice b n cap →
      ∃ v' w', (Builtin.append_ #[t, tx] ty #[v, x]).run P w = .ok v' w' ∧ GRow w' e i.size v' (n + m) (xs ++ news) ∧ w.grownBy w' none ∧ v'.ownBlock = some w.heap.size := by
    intro b cap hcap hold hv
    have hge := grownCap_ge w (n + m) cap e
    have hcm : grownCap w (n + m) cap e ≤ maxLen := grownCap_le_maxLen w (n + m) cap e (by simp only [maxLen]; exact h63)
    have hr := run_append_grow_src (P := P) w t tx ty e i z ht hi hz b n cap xs hold x m news hs hcap (by omega) (growslice_fits hcap hbytes)
    refine ⟨_, _, by rw [hv]; exact hr, ⟨hlen, .inr ⟨w.heap.size, 0, _, _, rfl, heap_alloc_new w.drew _, hge, hcm, ?_, ?_⟩⟩, ⟨rfl, rfl, rfl, by simp, fun k hk _ => Below.heap_alloc w.drew _ k hk⟩, by simp [Value.ownBlock]⟩
    · simp only [Array.size_append, List.size_toArray, List.length_append, size_zeroCells, hzs, h.1, hs.newsLen, ← Nat.add_mul]
      rw [Nat.zero_add, Nat.add_sub_cancel' hge]
      exact Nat.le_refl _
    · simp only [Array.toList_append, List.drop_zero]
      rw [← hlen]
      exact List.take_left
  rcases h.2 with ⟨hv, h0⟩ | ⟨g, off, cap, cur, hv, hb, hnc, hcm, hcs, htake⟩
  · subst h0
    have hx : xs = [] := List.eq_nil_of_length_eq_zero (by rw [h.1, Nat.zero_mul])
    by_cases hm : m = 0
    · subst hm
      have hn : news = [] := List.eq_nil_of_length_eq_zero (by rw [hs.newsLen, Nat.zero_mul])
      subst hn hx
      refine ⟨v, w, ?_, by simpa [hv] using GRow.nil w e i.size, World.grownBy.refl w _, .inl rfl, fun _ _ hm => absurd hm (by omega)⟩
      rw [hv]
      rcases hs.kind with ⟨e', hk⟩ | hk <;> simp [Builtin.append_, run_underlying ht, run_underlying hk, sizeOf, typeInfo, hi, hs.len, hs.cells]
    · obtain ⟨v', w', h1, h2, h3, h4⟩ := grows none 0 (by omega) (by rw [run_firstCells_none, hx]) hv
      exact ⟨v', w', h1, h2, ⟨h3.os, h3.tape, h3.output, h3.size, fun k hk _ => h3.block k hk (by simp)⟩, .inr h4, fun _ _ _ => ⟨h3, h4⟩⟩
  · by_cases hroom : n + m ≤ cap
    · have h5 : n * i.size + m * i.size ≤ cap * i.size := by rw [← Nat.add_mul]; exact Nat.mul_le_mul_right _ hroom
      have hfit : off + n * i.size + news.length ≤ cur.size := by rw [hs.newsLen]; omega
      have hr := run_append_room_src (P := P) w t tx ty e i ht hi g off n cap x m news hs hroom
        (fun j hj => by rw [cell_of_row w g _ cur e (0, 0) hb]; simp; omega) (fun j _ => blk_frozen hb _)
      obtain ⟨cur', h3, h4, h6⟩ := setCells_row news (off + n * i.size) w cur hb hfit
      obtain ⟨s1, s2, s3, s4⟩ := setCells_same g news (off + n * i.size) w
      refine ⟨_, _, by rw [hv]; exact hr, ⟨hlen, .inr ⟨g, off, cap, cur', rfl, h3, hroom, hcm, by rw [h4]; exact hcs, ?_⟩⟩,
        ⟨s1, s2, s3, by rw [s4]; exact Nat.le_refl _, fun k _ hk => setCells_far news _ k (fun he => hk (by rw [hv, he]; simp [Value.ownBlock]))⟩, .inl (by rw [hv]; rfl), ?_⟩
      · rw [h6, List.append_assoc, List.drop_append_of_le_length (by rw [List.length_take, Array.length_toList]; omega), List.drop_take]
        rw [show off + n * i.size - off = n * i.size by omega, htake]
        rw [← List.append_assoc]
        exact List.take_left' hlen
      · intro A hA hm
        rw [hv] at hA
        injection hA with _ _ hc
        omega
    · have hc : ∀ j u, xs[j]? = some u → w.drew.cell? ((⟨g, off, none⟩ : Addr).add j) = some u := GRow.cells (w := w.drew) (e := e) (sz := i.size) (n := n) (c := cap) ⟨h.1, .inr ⟨g, off, cap, cur, rfl, hb, hnc, hcm, hcs, htake⟩⟩ rfl
      obtain ⟨v', w', h1, h2, h3, h4⟩ := grows (some ⟨g, off, none⟩) cap (by omega) (run_firstCells_some w.drew i.size n ⟨g, off, none⟩ n cap xs h.1 hc) hv
      exact ⟨v', w', h1, h2, ⟨h3.os, h3.tape, h3.output, h3.size, fun k hk _ => h3.block k hk (by simp)⟩, .inr h4, fun _ _ _ => ⟨h3, h4⟩⟩
end

/-- A row with its elements; what they lead to lies in ok, and is not the row's own block. -/
def G {α : Type} (d : Kd α) (e : Nat) (w : World) (ok : Nat → Prop) (v : Value) (xs : List α) : Prop :=
  (∀ k, v.ownBlock = some k → ok k) ∧ ∃ inner, GRow w e d.sz v xs.length inner ∧ Reps (fun x c => Kd.FK d w (fun k => ok k ∧ some k ≠ v.ownBlock) x c) d.sz xs inner

section
variable {α : Type} {d : Kd α} {e : Nat} {w w1 W : World} {ok ok' okp : Nat → Prop} {v : Value} {xs ys : List α} {A : Option Addr} {n c : Nat}
theorem G_nil (d : Kd α) (e : Nat) (w : World) (ok : Nat → Prop) : G d e w ok (.slice none 0 0) [] := ⟨fun k hk => by simp [Value.ownBlock] at hk, [], GRow.nil _ _ _, Reps.none _ _⟩
theorem G_fresh (d : Kd α) (e : Nat) (W : World) (ok : Nat → Prop) (hok : ok W.heap.size) : G d e (W.alloc (.cells #[] e)) ok (.slice (some ⟨W.heap.size, 0, none⟩) 0 0) [] :=
  ⟨fun k hk => by have : W.heap.size = k := by simpa [Value.ownBlock] using hk
                  rw [← this]; exact hok, [], ⟨by simp, .inr ⟨W.heap.size, 0, 0, #[], rfl, heap_alloc_new W _, Nat.le_refl _, by simp [maxLen], by simp, by simp⟩⟩, Reps.none _ _⟩
theorem G_mono (h : G d e w ok v xs) (hok : ∀ k, ok k → ok' k) : G d e w ok' v xs := by
  obtain ⟨h0, inner, ho, hr⟩ := h
  exact ⟨fun k hk => hok k (h0 k hk), inner, ho, hr.imp_ (fun _ _ hp => Kd.FK_mono hp (fun k hk => ⟨hok k hk.1, hk.2⟩))⟩
theorem G_lt (h : G d e w ok v xs) (k : Nat) (hk : v.ownBlock = some k) : k < w.heap.size := by
  obtain ⟨_, inner, ho, _⟩ := h
  exact ho.lt k hk
theorem G_typed (h : G d e w ok v xs) (k : Nat) (hk : v.ownBlock = some k) : ∃ cells, w.heap[k]? = some (.cells cells e (0, 0)) := by
  obtain ⟨_, inner, ho, _⟩ := h
  exact ho.typed k hk
theorem G_ne (h : G d e w ok v xs) {g t : Nat} {cells : Array Value} (hb : w.heap[g]? = some (.cells cells t (0, 0))) (ht : e ≠ t) : some g ≠ v.ownBlock := by
  intro he
  obtain ⟨cells', hc⟩ := G_typed h g he.symm
  rw [hb] at hc
  injection hc with hc
  injection hc with _ hc
  exact ht hc.symm
theorem G_bound (h : G d e w ok v xs) : G d e w (fun k => ok k ∧ k < w.heap.size) v xs := by
  have hlt := G_lt h
  obtain ⟨h0, inner, ho, hr⟩ := h
  exact ⟨fun k hk => ⟨h0 k hk, hlt k hk⟩, inner, ho, hr.imp_ (fun _ _ hp => Kd.FK_mono (Kd.FK_bound hp) (fun k hk => ⟨⟨hk.1.1, hk.2⟩, hk.1.2⟩))⟩
theorem G_step (h : G d e w ok v xs) (hm : ∀ k, ok k → k < w.heap.size → w1.heap[k]? = w.heap[k]?) : G d e w1 ok v xs := by
  have hlt := G_lt h
  obtain ⟨h0, inner, ho, hr⟩ := h
  exact ⟨h0, inner, ho.move (fun k hk => hm k (h0 k hk) (hlt k hk)), hr.imp_ (fun _ _ hp => Kd.FK_step hp (fun k hk hl => hm k hk.1 hl))⟩
theorem G_below (h : G d e w ok v xs) (hb : Below w.heap.size w w1) : G d e w1 ok v xs := G_step h (fun k _ hk => hb.block k hk)
theorem G_alloc (h : G d e w ok v xs) (o : Obj) : G d e (w.alloc o) ok v xs := G_below h (below_alloc (Below.refl _ _) o)
theorem G_drew (h : G d e w ok v xs) : G d e w.drew ok v xs := G_below h (below_drew (Below.refl _ _))
theorem G_drewN (h : G d e w ok v xs) (k : Nat) : G d e (w.drewN k) ok v xs := G_below h (pw_below_drewN (Below.refl _ _) k)
theorem G_set (h : G d e w ok v xs) {p : Addr} (hp : ¬ ok p.block) (u : Value) : G d e (w.setCell p u) ok v xs := G_step h (fun k hk _ => Below.heap_setCell w p u k (fun e => hp (e ▸ hk)))
theorem G_grown (h : G d e w ok v xs) {row : Option Nat} (hg : w.grownBy w1 row) (hok : ∀ k, ok k → some k ≠ row) : G d e w1 ok v xs := G_step h (fun k hk hl => hg.block k hl (hok k hk))
theorem G_slice (h : G d e w ok v xs) : ∃ A c, v = .slice A xs.length c ∧ xs.length ≤ c := by
  obtain ⟨_, inner, ho, _⟩ := h
  exact ho.slice
theorem G_len (h : G d e w ok (.slice A n c) xs) : n = xs.length ∧ n ≤ c := by
  obtain ⟨A', c', he, hl⟩ := G_slice h
  injection he with h1 h2 h3
  subst h2 h3
  exact ⟨rfl, hl⟩
theorem G_C (h : G d e w ok (.slice A n c) xs) : d.C w A n xs := by
  obtain ⟨h1, _⟩ := G_len h
  subst h1
  obtain ⟨_, inner, ho, hr⟩ := h
  refine ⟨rfl, ho.max, fun hn => ?_⟩
  obtain ⟨g, off, rfl⟩ := ho.addr hn
  refine ⟨_, rfl, fun j p hj => ⟨(inner.drop (j * d.sz)).take d.sz, ?_, Kd.FK_now (hr.2 j p hj), fun i u hu => ?_⟩⟩
  · have hjl := (List.getElem?_eq_some_iff.1 hj).1
    have h5 : j * d.sz + d.sz ≤ xs.length * d.sz := by rw [← Nat.succ_mul]; exact Nat.mul_le_mul_right _ hjl
    rw [List.length_take, List.length_drop, hr.1, Nat.min_eq_left (by omega)]
  · refine ho.cells rfl _ u ?_
    rw [List.getElem?_take] at hu
    split at hu
    · rwa [List.getElem?_drop] at hu
    · cases hu
theorem G_F (h : G d e w ok (.slice A n c) xs) : Kd.F d w ok A n xs := fun _ hW => G_C (G_step h hW)
theorem G_of_N {base : Nat} (h : Kd.N d e w base ok v xs) : G d e w ok v xs := by
  obtain ⟨h0, rows, hl, ⟨_, inner, ho, hr⟩, hf⟩ := h
  refine ⟨h0, inner, by rw [← hl]; exact GRow.of_own ho, by rw [hr.1, hl]; rfl, fun j p hj => ?_⟩
  have hjl := (List.getElem?_eq_some_iff.1 hj).1
  have h2 := hr.2 j _ (List.getElem?_eq_getElem (show j < rows.length by omega))
  have h3 := hf j p rows[j] hj (List.getElem?_eq_getElem (by omega))
  have h4 : (inner.drop (j * d.sz)).take d.sz = rows[j] := h2.1
  rw [h4]
  exact h3
theorem G_of_R {base : Nat} (h : d.R e w base ok v xs) : G d e w ok v xs := G_of_N (Kd.R_N h)
theorem G_take {k m : Nat} (h : G d e w ok (.slice A n c) xs) (hm : m ≤ n) (hk : m ≤ k) (hkc : k ≤ c) : G d e w ok (.slice A m k) (xs.take m) := by
  obtain ⟨h1, _⟩ := G_len h
  subst h1
  have hb : (Value.slice A m k).ownBlock = (Value.slice A xs.length c).ownBlock := by cases A <;> rfl
  obtain ⟨h0, inner, ho, hr⟩ := h
  refine ⟨fun k' hk' => h0 k' (by rw [← hb]; exact hk'), inner.take (m * d.sz), ?_, ?_⟩
  · rw [List.length_take, Nat.min_eq_left hm]
    exact ho.take hm hk hkc
  · rw [hb]
    exact Kd.reps_take hr hm
theorem G_drop {m : Nat} (h : G d e w ok (.slice A n c) xs) (hm : m ≤ n) : G d e w ok (.slice (if c = m then A else A.map (·.add (m * d.sz))) (n - m) (c - m)) (xs.drop m) := by
  obtain ⟨h1, _⟩ := G_len h
  subst h1
  have hb : (Value.slice (if c = m then A else A.map (·.add (m * d.sz))) (xs.length - m) (c - m)).ownBlock = (Value.slice A xs.length c).ownBlock := by
    cases A with
    | none => split <;> rfl
    | some a => split <;> simp [Value.ownBlock, add_block]
  obtain ⟨h0, inner, ho, hr⟩ := h
  refine ⟨fun k' hk' => h0 k' (by rw [← hb]; exact hk'), inner.drop (m * d.sz), ?_, ?_⟩
  · rw [List.length_drop]
    exact ho.drop hm
  · rw [hb]
    exact Kd.reps_drop hr
/-- A row of whole numbers leads to nothing. -/
theorem G_int {k : IntKind} {xs : List Int} (h : G (Kd.int k) e w ok v xs) (hok : ∀ i, v.ownBlock = some i → ok' i) : G (Kd.int k) e w ok' v xs := by
  obtain ⟨_, inner, ho, hr⟩ := h
  exact ⟨hok, inner, ho, hr.imp_ (fun x c hp => fun _ _ => (show c = [Value.int k x] from Kd.FK_now hp))⟩
/-- What an append leaves. -/
theorem G_appended {inner news : List Value} {v1 : Value} (h0 : ∀ k, v.ownBlock = some k → ok k) (hr : Reps (fun x c => Kd.FK d W (fun k => ok k ∧ some k ≠ v.ownBlock) x c) d.sz xs inner)
    (hr2 : Reps (fun x c => Kd.FK d W okp x c) d.sz ys news) (hokp : ∀ k, okp k → ok k ∧ some k ≠ v.ownBlock) (hfresh : ∀ k, W.heap.size ≤ k → ok k)
    (hG : GRow w1 e d.sz v1 (xs.length + ys.length) (inner ++ news)) (hg : W.grownBy w1 v.ownBlock) (hat : v1.ownBlock = v.ownBlock ∨ ∃ b, v1.ownBlock = some b ∧ W.heap.size ≤ b) : G d e w1 ok v1 (xs ++ ys) := by
  have hne : ∀ k, some k ≠ v.ownBlock → k < W.heap.size → some k ≠ v1.ownBlock := by
    intro k hk hlt
    rcases hat with hat | ⟨b, hb, hle⟩
    · rw [hat]; exact hk
    · rw [hb]
      intro he
      injection he with he
      omega
  have step : ∀ {x : α} {c : List Value} {o : Nat → Prop}, Kd.FK d W o x c → (∀ k, o k → ok k ∧ some k ≠ v.ownBlock) → Kd.FK d w1 (fun k => ok k ∧ some k ≠ v1.ownBlock) x c := by
    intro x c o hq ho
    exact Kd.FK_mono (Kd.FK_step (Kd.FK_bound hq) (fun k hk hlt => hg.block k hlt (ho k hk.1).2)) (fun k hk => ⟨(ho k hk.1).1, hne k (ho k hk.1).2 hk.2⟩)
  refine ⟨fun k hk => ?_, inner ++ news, by rw [List.length_append]; exact hG, Kd.reps_append (hr.imp_ (fun _ _ hp => step hp (fun _ hk => hk))) (hr2.imp_ (fun _ _ hp => step hp hokp))⟩
  rcases hat with hat | ⟨b, hb, hle⟩
  · exact h0 k (hat ▸ hk)
  · rw [hb] at hk
    injection hk with hk
    exact hfresh k (by omega)
end

section
variable {P : Program} {ops : Array Oper} {rest : List Oper} {o : Oper} {a : Act} {Q : Exit → Act → World → Prop} {Kc : Act → World → Prop} {α : Type}
/-- append(v, x): the run. W: the world ahead of the variadic's box. -/
theorem G_run_append (d : Kd α) {W : World} (t ty e : TypeId) (z : Value) (bytes : Nat)
    (ht : P.underlying t = some (.slice e)) (hinfo : (P.info? e).map (fun i => (i.zero, i.size, i.bytes)) = some (some z, d.sz, bytes)) (hz : z.cells.size = d.sz) (hb0 : 0 < bytes)
    (v : Value) (xs : List α) (p : α) (cs : List Value) (ok okp : Nat → Prop) (hp : Kd.FK d W okp p cs) (hokp : ∀ k, okp k → ok k ∧ some k ≠ v.ownBlock) (hfresh : ∀ k, W.heap.size ≤ k → ok k)
    (HO : G d e W ok v xs) (hl : (xs.length + 1) * bytes ≤ 140737488355328) :
    ∃ v1 w1, (Builtin.append_ #[t, t] ty #[v, .slice (some ⟨W.heap.size, 0, none⟩) 1 1]).run P (W.alloc (.cells cs.toArray e)) = .ok v1 w1 ∧ G d e w1 ok v1 (xs ++ [p]) ∧ W.grownBy w1 v.ownBlock ∧ (v1.ownBlock = v.ownBlock ∨ ∃ b, v1.ownBlock = some b ∧ W.heap.size ≤ b) ∧
      (∀ A, v = .slice A xs.length xs.length → W.grownBy w1 none ∧ ∃ b, v1.ownBlock = some b ∧ W.heap.size ≤ b) := by
  obtain ⟨i0, hi, hzz⟩ := Option.map_eq_some_iff.1 hinfo
  simp only [Prod.mk.injEq] at hzz
  obtain ⟨hz0, hz1, hz2⟩ := hzz
  obtain ⟨h0, inner, ho, hr⟩ := HO
  have hlen : xs.length + 1 ≤ 140737488355328 := Nat.le_trans (Nat.le_mul_of_pos_right _ hb0) hl
  have hcl := d.K_len (Kd.FK_now hp)
  have hq : GRow (W.alloc (.cells cs.toArray e)) e d.sz v xs.length inner := ho.move (fun k hk => Below.heap_alloc W _ k (ho.lt k hk))
  have hsrc : Src P d.sz t (.slice (some ⟨W.heap.size, 0, none⟩) 1 1) 1 cs (W.alloc (.cells cs.toArray e)) := Src.ofSlice _ ht ⟨W.heap.size, 0, none⟩ 1 1 cs (by rw [hcl, Nat.one_mul])
    (by simpa using World.news_of_block (cs := cs.toArray) (t := e) (fr := (0, 0)) (heap_alloc_new W (.cells cs.toArray e))) (d.K_one (Kd.FK_now hp))
  obtain ⟨v1, w1, hrun, hq1, hg1, hat, hfull⟩ := GRow.append (P := P) (W.alloc (.cells cs.toArray e)) t t ty e i0 z d.sz bytes ht hi hz0 hz1 hz2 hz v xs.length inner hq _ 1 cs hsrc (by omega) hl
  have hg : W.grownBy w1 v.ownBlock := World.grownBy.trans (World.grownBy_alloc W _ _) hg1
  have hat' : v1.ownBlock = v.ownBlock ∨ ∃ b, v1.ownBlock = some b ∧ W.heap.size ≤ b := by
    rcases hat with hat | hat
    · exact .inl hat
    · exact .inr ⟨_, hat, by rw [World.size_alloc]; omega⟩
  exact ⟨v1, w1, hrun, G_appended h0 hr (ys := [p]) (news := cs) ⟨by simp [hcl], fun j q hj => by
    rcases j with _ | j
    · simp only [List.getElem?_cons_zero, Option.some.injEq] at hj
      rw [← hj]
      simpa [← hcl] using hp
    · simp at hj⟩ hokp hfresh hq1 hg hat', hg, hat', fun A hA => ⟨World.grownBy.trans (World.grownBy_alloc W _ _) (hfull A hA (by omega)).1, _, (hfull A hA (by omega)).2, by rw [World.size_alloc]; omega⟩⟩
theorem G_append (d : Kd α) {W : World} (hgd : o.guard = none) (s x : Operand) (t e : TypeId) (z : Value) (bytes : Nat)
    (ho : o.op = .call { callee := .builtin .append, args := #[s, x], argTypes := #[t, t] })
    (ht : P.underlying t = some (.slice e)) (hinfo : (P.info? e).map (fun i => (i.zero, i.size, i.bytes)) = some (some z, d.sz, bytes)) (hz : z.cells.size = d.sz) (hb0 : 0 < bytes)
    (v : Value) (xs : List α) (p : α) (cs : List Value) (ok okp : Nat → Prop) (hs : a.eval s = v) (hx : a.eval x = .slice (some ⟨W.heap.size, 0, none⟩) 1 1) (hp : Kd.FK d W okp p cs) (hokp : ∀ k, okp k → ok k ∧ some k ≠ v.ownBlock) (hfresh : ∀ k, W.heap.size ≤ k → ok k)
    (HO : G d e W ok v xs) (hl : (xs.length + 1) * bytes ≤ 140737488355328)
    (h : ∀ v1 w1, G d e w1 ok v1 (xs ++ [p]) → W.grownBy w1 v.ownBlock → (v1.ownBlock = v.ownBlock ∨ ∃ b, v1.ownBlock = some b ∧ W.heap.size ≤ b) → (∀ A, v = .slice A xs.length xs.length → W.grownBy w1 none ∧ ∃ b, v1.ownBlock = some b ∧ W.heap.size ≤ b) → wpList P ops Q rest (a.put o.dst v1) w1) :
    wpList P ops Q (o :: rest) a (W.alloc (.cells cs.toArray e)) := by
  obtain ⟨v1, w1, hr, h1, h2, h3, h4⟩ := G_run_append (P := P) d t o.type e z bytes ht hinfo hz hb0 v xs p cs ok okp hp hokp hfresh HO hl
  refine wpList_plain hgd fun K hK => ?_
  unfold Oper.wp execOp
  simp only [ho, resolve, invoke, builtin, Sem.run_bind, Sem.run_pure, Result.andThen_ok, List.map_toArray, List.map_cons, List.map_nil, hs, hx, hr]
  exact hK _ _ (h v1 w1 h1 h2 h3 h4)
theorem G_append_step (d : Kd α) {W : World} (hw : Region.wanted o (yielded ops a.tmps) = true) (s x : Operand) (t e : TypeId) (z : Value) (bytes : Nat)
    (ho : o.op = .call { callee := .builtin .append, args := #[s, x], argTypes := #[t, t] })
    (ht : P.underlying t = some (.slice e)) (hinfo : (P.info? e).map (fun i => (i.zero, i.size, i.bytes)) = some (some z, d.sz, bytes)) (hz : z.cells.size = d.sz) (hb0 : 0 < bytes)
    (v : Value) (xs : List α) (p : α) (cs : List Value) (ok okp : Nat → Prop) (hs : a.eval s = v) (hx : a.eval x = .slice (some ⟨W.heap.size, 0, none⟩) 1 1) (hp : Kd.FK d W okp p cs) (hokp : ∀ k, okp k → ok k ∧ some k ≠ v.ownBlock) (hfresh : ∀ k, W.heap.size ≤ k → ok k)
    (HO : G d e W ok v xs) (hl : (xs.length + 1) * bytes ≤ 140737488355328)
    (h : ∀ v1 w1, G d e w1 ok v1 (xs ++ [p]) → W.grownBy w1 v.ownBlock → (v1.ownBlock = v.ownBlock ∨ ∃ b, v1.ownBlock = some b ∧ W.heap.size ≤ b) → (∀ A, v = .slice A xs.length xs.length → W.grownBy w1 none ∧ ∃ b, v1.ownBlock = some b ∧ W.heap.size ≤ b) → Kc (a.put o.dst v1) w1) :
    if Region.wanted o (yielded ops a.tmps) = true then Oper.wp P o a (W.alloc (.cells cs.toArray e)) Kc Q else Kc (a.put o.dst undef) (W.alloc (.cells cs.toArray e)) := by
  obtain ⟨v1, w1, hr, h1, h2, h3, h4⟩ := G_run_append (P := P) d t o.type e z bytes ht hinfo hz hb0 v xs p cs ok okp hp hokp hfresh HO hl
  rw [if_pos hw]
  unfold Oper.wp execOp
  simp only [ho, resolve, invoke, builtin, Sem.run_bind, Sem.run_pure, Result.andThen_ok, List.map_toArray, List.map_cons, List.map_nil, hs, hx, hr]
  exact h v1 w1 h1 h2 h3 h4
/-- append(v, ys...): ys is read. -/
theorem G_run_append_rows (d : Kd α) {W : World} (t ty e : TypeId) (z : Value) (bytes : Nat)
    (ht : P.underlying t = some (.slice e)) (hinfo : (P.info? e).map (fun i => (i.zero, i.size, i.bytes)) = some (some z, d.sz, bytes)) (hz : z.cells.size = d.sz) (hb0 : 0 < bytes)
    (v : Value) (xs ys : List α) (A : Option Addr) (m c : Nat) (ok okp : Nat → Prop)
    (HO : G d e W ok v xs) (HR : Kd.F d W okp A m ys) (hokp : ∀ k, okp k → ok k ∧ some k ≠ v.ownBlock) (hfresh : ∀ k, W.heap.size ≤ k → ok k) (hl : (xs.length + m) * bytes ≤ 140737488355328) :
    ∃ v1 w1, (Builtin.append_ #[t, t] ty #[v, .slice A m c]).run P W = .ok v1 w1 ∧ G d e w1 ok v1 (xs ++ ys) ∧ W.grownBy w1 v.ownBlock ∧ (v1.ownBlock = v.ownBlock ∨ ∃ b, v1.ownBlock = some b ∧ W.heap.size ≤ b) ∧
      (∀ A, v = .slice A xs.length xs.length → 0 < m → W.grownBy w1 none ∧ ∃ b, v1.ownBlock = some b ∧ W.heap.size ≤ b) := by
  obtain ⟨i0, hi, hzz⟩ := Option.map_eq_some_iff.1 hinfo
  simp only [Prod.mk.injEq] at hzz
  obtain ⟨hz0, hz1, hz2⟩ := hzz
  obtain ⟨h0, inner, ho, hr⟩ := HO
  have hlen : xs.length + m ≤ 140737488355328 := Nat.le_trans (Nat.le_mul_of_pos_right _ hb0) hl
  have hm : ys.length = m := (Kd.F_now HR).1
  obtain ⟨news, hr2, hcc⟩ : ∃ news, Reps (fun x c => Kd.FK d W okp x c) d.sz ys news ∧ Src P d.sz t (.slice A m c) m news W := by
    cases A with
    | none =>
      have hm0 : m = 0 := by
        rcases Nat.eq_zero_or_pos m with h | h
        · exact h
        · obtain ⟨ad, h1, _⟩ := (Kd.F_now HR).2.2 h
          cases h1
      subst hm0
      have hy : ys = [] := List.eq_nil_of_length_eq_zero hm
      subst hy
      exact ⟨[], Reps.none _ _, Src.ofNil W ht c⟩
    | some ad =>
      obtain ⟨news, h1, h2⟩ := ReadsRow.inner_ (Kd.F_rows HR)
      refine ⟨news, h1, Src.ofSlice W ht ad m c news (by rw [h1.1, hm]) h2 (fun u hu => ?_)⟩
      obtain ⟨j, hj, rfl⟩ := List.mem_iff_getElem.1 hu
      rcases Nat.eq_zero_or_pos d.sz with hs | hs
      · rw [h1.1, hs] at hj; omega
      · have hjd : j / d.sz < ys.length := by rw [h1.1] at hj; exact Nat.div_lt_of_lt_mul (by rw [Nat.mul_comm]; exact hj)
        have h3 := h1.2 (j / d.sz) _ (List.getElem?_eq_getElem hjd)
        refine d.K_one (Kd.FK_now h3) _ (List.mem_iff_getElem?.2 ⟨j % d.sz, ?_⟩)
        rw [List.getElem?_take, if_pos (Nat.mod_lt _ hs), List.getElem?_drop, Nat.div_add_mod', List.getElem?_eq_getElem hj]
  obtain ⟨v1, w1, hrun, hq1, hg1, hat, hfull⟩ := GRow.append (P := P) W t t ty e i0 z d.sz bytes ht hi hz0 hz1 hz2 hz v xs.length inner ho _ m news hcc (by omega) hl
  have hat' : v1.ownBlock = v.ownBlock ∨ ∃ b, v1.ownBlock = some b ∧ W.heap.size ≤ b := by
    rcases hat with hat | hat
    · exact .inl hat
    · exact .inr ⟨_, hat, Nat.le_refl _⟩
  exact ⟨v1, w1, hrun, G_appended h0 hr hr2 hokp hfresh (by rw [hm]; exact hq1) hg1 hat', hg1, hat', fun A hA h => ⟨(hfull A hA h).1, _, (hfull A hA h).2, Nat.le_refl _⟩⟩
theorem G_append_rows (d : Kd α) {W : World} (hgd : o.guard = none) (s x : Operand) (t e : TypeId) (z : Value) (bytes : Nat)
    (ho : o.op = .call { callee := .builtin .append, args := #[s, x], argTypes := #[t, t] })
    (ht : P.underlying t = some (.slice e)) (hinfo : (P.info? e).map (fun i => (i.zero, i.size, i.bytes)) = some (some z, d.sz, bytes)) (hz : z.cells.size = d.sz) (hb0 : 0 < bytes)
    (v : Value) (xs ys : List α) (A : Option Addr) (m c : Nat) (ok okp : Nat → Prop) (hs : a.eval s = v) (hx : a.eval x = .slice A m c)
    (HO : G d e W ok v xs) (HR : Kd.F d W okp A m ys) (hokp : ∀ k, okp k → ok k ∧ some k ≠ v.ownBlock) (hfresh : ∀ k, W.heap.size ≤ k → ok k) (hl : (xs.length + m) * bytes ≤ 140737488355328)
    (h : ∀ v1 w1, G d e w1 ok v1 (xs ++ ys) → W.grownBy w1 v.ownBlock → (v1.ownBlock = v.ownBlock ∨ ∃ b, v1.ownBlock = some b ∧ W.heap.size ≤ b) → (∀ A, v = .slice A xs.length xs.length → 0 < m → W.grownBy w1 none ∧ ∃ b, v1.ownBlock = some b ∧ W.heap.size ≤ b) → wpList P ops Q rest (a.put o.dst v1) w1) :
    wpList P ops Q (o :: rest) a W := by
  obtain ⟨v1, w1, hr, h1, h2, h3, h4⟩ := G_run_append_rows (P := P) d t o.type e z bytes ht hinfo hz hb0 v xs ys A m c ok okp HO HR hokp hfresh hl
  refine wpList_plain hgd fun K hK => ?_
  unfold Oper.wp execOp
  simp only [ho, resolve, invoke, builtin, Sem.run_bind, Sem.run_pure, Result.andThen_ok, List.map_toArray, List.map_cons, List.map_nil, hs, hx, hr]
  exact hK _ _ (h v1 w1 h1 h2 h3 h4)
theorem G_append_rows_step (d : Kd α) {W : World} (hw : Region.wanted o (yielded ops a.tmps) = true) (s x : Operand) (t e : TypeId) (z : Value) (bytes : Nat)
    (ho : o.op = .call { callee := .builtin .append, args := #[s, x], argTypes := #[t, t] })
    (ht : P.underlying t = some (.slice e)) (hinfo : (P.info? e).map (fun i => (i.zero, i.size, i.bytes)) = some (some z, d.sz, bytes)) (hz : z.cells.size = d.sz) (hb0 : 0 < bytes)
    (v : Value) (xs ys : List α) (A : Option Addr) (m c : Nat) (ok okp : Nat → Prop) (hs : a.eval s = v) (hx : a.eval x = .slice A m c)
    (HO : G d e W ok v xs) (HR : Kd.F d W okp A m ys) (hokp : ∀ k, okp k → ok k ∧ some k ≠ v.ownBlock) (hfresh : ∀ k, W.heap.size ≤ k → ok k) (hl : (xs.length + m) * bytes ≤ 140737488355328)
    (h : ∀ v1 w1, G d e w1 ok v1 (xs ++ ys) → W.grownBy w1 v.ownBlock → (v1.ownBlock = v.ownBlock ∨ ∃ b, v1.ownBlock = some b ∧ W.heap.size ≤ b) → (∀ A, v = .slice A xs.length xs.length → 0 < m → W.grownBy w1 none ∧ ∃ b, v1.ownBlock = some b ∧ W.heap.size ≤ b) → Kc (a.put o.dst v1) w1) :
    if Region.wanted o (yielded ops a.tmps) = true then Oper.wp P o a W Kc Q else Kc (a.put o.dst undef) W := by
  obtain ⟨v1, w1, hr, h1, h2, h3, h4⟩ := G_run_append_rows (P := P) d t o.type e z bytes ht hinfo hz hb0 v xs ys A m c ok okp HO HR hokp hfresh hl
  rw [if_pos hw]
  unfold Oper.wp execOp
  simp only [ho, resolve, invoke, builtin, Sem.run_bind, Sem.run_pure, Result.andThen_ok, List.map_toArray, List.map_cons, List.map_nil, hs, hx, hr]
  exact h v1 w1 h1 h2 h3 h4
end
end Go.Proofs.Ytpnmodkddiljeaa
