/- Store. Conditions: the log is in order. -/
import Derived.Test.YtpnmodkddiljeaaCompact
namespace Go.Proofs.Ytpnmodkddiljeaa
open Go.RowKit Go.Proofs.YtpnmodkddiljeaaW.PrintWords Go.Proofs.YtpnmodkddiljeaaW.PrintLast PEntryPlays Go.Shelf

def LS.skip (st : LS) (e : S31) : Bool := decide (e.f0 ≤ st.index) || st.fits e.f0 e.f1
structure Stored where
  st : LS
  at_ : Int
  put : List S31
  e : Int
def LS.store (st : LS) (i t : Int) (es : List S31) : Stored :=
  if mayES i t es = false then ⟨st, 0, [], 2⟩
  else if (st.termAt i).2 = 5 ∨ ((st.termAt i).2 = 0 ∧ (st.termAt i).1 ≠ t) then ⟨st, 0, [], 261⟩
  else match es.dropWhile st.skip with
    | [] => ⟨st, 0, [], 0⟩
    | e :: es' => if 4096 < (e.f0 - st.index - 1) + (es'.length + 1) then ⟨st, 0, [], 6⟩ else ⟨{ st with l := st.l.take (e.f0 - st.index - 1).toNat ++ e :: es' }, e.f0, e :: es', 0⟩

theorem may_calls (i t : Int) (es : List S31) {w : World} {ok : Nat → Prop} {v : Value} (h : G k31 31 w ok v es) (hl : es.length ≤ 9223372036854775806) (he : ∀ e, e ∈ es → e.f4.length ≤ 9223372036854775807) :
    Calls Try.prog 39 #[.int .u64 i, .int .u64 t, v] w fun e w' => e = .returned (.bool (mayES i t es)) ∧ Below w.heap.size w w' := by
  obtain ⟨A, c, rfl, hc⟩ := G_slice h
  obtain ⟨k, hk⟩ := (mayES_may es i t hl he).rounds
  exact entry_may.calls k i t A c es _ w (G_C h) hc hk

set_option maxHeartbeats 400000 in
theorem store_nil (i t : Int) (v : Value) (w : World) : Calls Try.prog 11 #[.pointer none, .int .u64 i, .int .u64 t, v] w fun e w' => e = .returned (.tuple #[.int .u64 0, .slice none 0 0, .int .i64 1]) ∧ Below w.heap.size w w' := by
  go_enter Try.func11, Try.ntmps11
  go_wp2_with fail
  refine (term_nil i _).mono ?_
  rintro e w1 ⟨rfl, hb⟩
  have HB := Lib.hid hb
  clear hb
  go_wp2
  go_ret3
  exact ⟨rfl, HB.out⟩

set_option maxHeartbeats 400000 in
theorem store_may {g : Nat} {w : World} {ok oke : Nat → Prop} {lv ve : Value} {st : LS} (h : IsL 70 g w ok lv st) (hok : LSok st) (i t : Int) (es : List S31) (he : G k31 31 w oke ve es) (hl : es.length ≤ 4096) (h7 : ∀ e, e ∈ es → e.f4.length ≤ 4096)
    (hm : mayES i t es = false) (hb : (st.termAt i).2 ≠ 1) :
    Calls Try.prog 11 #[.pointer (some ⟨g, 0, none⟩), .int .u64 i, .int .u64 t, ve] w fun e w' => e = .returned (.tuple #[.int .u64 0, .slice none 0 0, .int .i64 2]) ∧ Below w.heap.size w w' := by
  have H := Lib.hid h
  have HE := Lib.hid he
  have HT := Lib.hid (term_any h hok i)
  have HM := Lib.hid (fun w1 hb => may_calls i t es (w := w1) (G_below he hb) (by omega) (fun e hx => by have := h7 e hx; omega))
  have HO := Lib.hid hok
  clear h he hok
  generalize ht : st.termAt i = p at *
  obtain ⟨a, b⟩ := p
  dsimp only at *
  have HTt := Lib.hid ht
  clear ht
  have hb1 : (b == 1) = false := by simpa using hb
  clear hb
  go_enter Try.func11, Try.ntmps11
  go_wp2_with fail
  refine HT.out.mono ?_
  rintro e w1 ⟨rfl, hb⟩
  have HB := Lib.hid hb
  clear hb
  go_wp2_with fail
  refine (HM.out _ HB.out).mono ?_
  rintro e w2 ⟨rfl, hb⟩
  have HB2 := Lib.hid (below_then HB.out HB.out.size hb)
  rw [hm]
  clear hb
  go_wp2
  go_ret3
  exact ⟨rfl, HB2.out⟩

set_option maxHeartbeats 400000 in
theorem store_clash {g : Nat} {w : World} {ok oke : Nat → Prop} {lv ve : Value} {st : LS} (h : IsL 70 g w ok lv st) (hok : LSok st) (i t : Int) (es : List S31) (he : G k31 31 w oke ve es) (hl : es.length ≤ 4096) (h7 : ∀ e, e ∈ es → e.f4.length ≤ 4096)
    (hm : mayES i t es = true) (hb : (st.termAt i).2 = 5 ∨ ((st.termAt i).2 = 0 ∧ (st.termAt i).1 ≠ t)) :
    Calls Try.prog 11 #[.pointer (some ⟨g, 0, none⟩), .int .u64 i, .int .u64 t, ve] w fun e w' => e = .returned (.tuple #[.int .u64 0, .slice none 0 0, .int .i64 261]) ∧ Below w.heap.size w w' := by
  have H := Lib.hid h
  have HE := Lib.hid he
  have HT := Lib.hid (term_any h hok i)
  have HM := Lib.hid (fun w1 hb => may_calls i t es (w := w1) (G_below he hb) (by omega) (fun e hx => by have := h7 e hx; omega))
  have HO := Lib.hid hok
  clear h he hok
  generalize ht : st.termAt i = p at *
  obtain ⟨a, b⟩ := p
  dsimp only at *
  have HTt := Lib.hid ht
  clear ht
  rcases hb with rfl | ⟨rfl, hb⟩
  · go_enter Try.func11, Try.ntmps11
    go_wp2_with fail
    refine HT.out.mono ?_
    rintro e w1 ⟨rfl, hb⟩
    have HB := Lib.hid hb
    clear hb
    go_wp2_with fail
    refine (HM.out _ HB.out).mono ?_
    rintro e w2 ⟨rfl, hb⟩
    have HB2 := Lib.hid (below_then HB.out HB.out.size hb)
    rw [hm]
    clear hb
    go_wp2
    go_ret3
    exact ⟨rfl, HB2.out⟩
  · have hb1 : (a != t) = true := by simpa using hb
    clear hb
    go_enter Try.func11, Try.ntmps11
    go_wp2_with fail
    refine HT.out.mono ?_
    rintro e w1 ⟨rfl, hb⟩
    have HB := Lib.hid hb
    clear hb
    go_wp2_with fail
    refine (HM.out _ HB.out).mono ?_
    rintro e w2 ⟨rfl, hb⟩
    have HB2 := Lib.hid (below_then HB.out HB.out.size hb)
    rw [hm]
    clear hb
    go_wp2
    go_ret3
    exact ⟨rfl, HB2.out⟩
end Go.Proofs.Ytpnmodkddiljeaa
