/- EntryNone: the walk. No conditions. -/
import Derived.Test.YtpnmodkddiljeaaWorks
namespace Go.Proofs.Ytpnmodkddiljeaa
open Go.RowKit Go.Proofs.YtpnmodkddiljeaaW.PrintWords Go.Proofs.YtpnmodkddiljeaaW.PrintLast PEntryPlays Go.Shelf

set_option maxHeartbeats 2000000 in
set_option maxRecDepth 100000 in
theorem none_any (n most : Int) (w : World) : Calls Try.prog 7 #[.int .u64 n, .int .i64 most] w fun e w' => e = .returned (.bool true) ∧ Below w.heap.size w w' := by
  have HB0 := Lib.hid (Below.refl w.heap.size w)
  go_enter Try.func7, Try.ntmps7
  go_wp2_with fail
  refine (base_nil _).mono ?_
  rintro e w1 ⟨rfl, hb⟩
  have HB1 := Lib.hid (below_then HB0.out HB0.out.size hb)
  clear hb HB0
  go_wp2_with fail
  refine (last_nil _).mono ?_
  rintro e w2 ⟨rfl, hb⟩
  have HB2 := Lib.hid (below_then HB1.out HB1.out.size hb)
  clear hb HB1
  go_wp2_with fail
  refine (term_nil n _).mono ?_
  rintro e w3 ⟨rfl, hb⟩
  have HB3 := Lib.hid (below_then HB2.out HB2.out.size hb)
  clear hb HB2
  go_wp2_with fail
  refine (store_nil n n _ _).mono ?_
  rintro e w4 ⟨rfl, hb⟩
  have HB4 := Lib.hid (below_then HB3.out HB3.out.size hb)
  clear hb HB3
  go_wp2_with fail
  refine (slice_nil n most _).mono ?_
  rintro e w5 ⟨rfl, hb⟩
  have HB5 := Lib.hid (below_then HB4.out HB4.out.size hb)
  clear hb HB4
  go_wp2_with fail
  refine (conf_nil _).mono ?_
  rintro e w6 ⟨rfl, hb⟩
  have HB6 := Lib.hid (below_then HB5.out HB5.out.size hb)
  clear hb HB5
  go_wp2_with fail
  refine (confAt_nil n _).mono ?_
  rintro e w7 ⟨rfl, hb⟩
  have HB7 := Lib.hid (below_then HB6.out HB6.out.size hb)
  clear hb HB6
  go_wp2_with fail
  refine (noop_any 1 1 _).mono ?_
  rintro e w8 ⟨A8, c8, rfl, hb⟩
  have HB8 := Lib.hid (below_then HB7.out HB7.out.size hb)
  clear hb HB7
  go_wp2_with fail
  refine (append_nil (noopE 1 1) (.slice A8 0 c8) _).mono ?_
  rintro e w9 ⟨rfl, hb⟩
  have HB9 := Lib.hid (below_then HB8.out HB8.out.size hb)
  clear hb HB8
  go_wp2_with fail
  refine (fits_nil n n _).mono ?_
  rintro e w10 ⟨rfl, hb⟩
  have HB10 := Lib.hid (below_then HB9.out HB9.out.size hb)
  clear hb HB9
  go_wp2_with fail
  refine (hint_nil n _).mono ?_
  rintro e w11 ⟨rfl, hb⟩
  have HB11 := Lib.hid (below_then HB10.out HB10.out.size hb)
  clear hb HB10
  go_wp2_with fail
  refine (compact_nil n _).mono ?_
  rintro e w12 ⟨rfl, hb⟩
  have HB12 := Lib.hid (below_then HB11.out HB11.out.size hb)
  clear hb HB11
  go_wp2_with fail
  refine (works_any _).mono ?_
  rintro e w13 ⟨rfl, hb⟩
  have HB13 := Lib.hid (below_then HB12.out HB12.out.size hb)
  clear hb HB12
  go_wp2_with fail
  go_ret
  exact ⟨rfl, HB13.out⟩
end Go.Proofs.Ytpnmodkddiljeaa
