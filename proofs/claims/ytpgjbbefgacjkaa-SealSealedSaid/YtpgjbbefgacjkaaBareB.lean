/- 'bare' of package world, kind by kind. Printed by gen_bare.py. -/
import Derived.Test.YtpgjbbefgacjkaaBareA
namespace Go.Proofs.Ytpgjbbefgacjkaa
open Go.RowKit
set_option linter.unusedSimpArgs false
set_option linter.unusedVariables false

set_option maxRecDepth 100000 in
set_option maxHeartbeats 4000000 in
theorem bare_7 (h vk vn vr n lost of_ by_ st : Int) (vs : ByteArray) (full : Bool) (va la ca na : Option Addr) (vl vc ll lc cl cc nl nc : Nat) (w : World) :
    Calls Try.prog 65 #[.agg #[.int .u8 7, .int .i64 h, .int .u8 vk, .int .i64 vn, .string vs, .slice va vl vc, .int .i64 vr, .slice la ll lc, .int .i64 n, .int .i64 lost, .int .i64 of_, .int .i64 by_, .int .u8 st, .bool full, .slice ca cl cc, .slice na nl nc]] w
      (Agg_ w (.agg #[.int .u8 7, .int .i64 h, .int .u8 vk, .int .i64 vn, .string vs, .slice va vl vc, .int .i64 vr, .slice none 0 0, .int .i64 0, .int .i64 0, .int .i64 of_, .int .i64 0, .int .u8 0, .bool false, .slice none 0 0, .slice none 0 0])) := by
  have hb := build_What2
  have hz := zero_What
  go_enter Try.func65, Try.ntmps65
  go_wp2
  go_region
  all_goals go_wp2
  refine ret_blk (g := w.heap.size + 1) (cs := [.int .u8 7, .int .i64 h, .int .u8 vk, .int .i64 vn, .string vs, .slice va vl vc, .int .i64 vr, .slice none 0 0, .int .i64 0, .int .i64 0, .int .i64 of_, .int .i64 0, .int .u8 0, .bool false, .slice none 0 0, .slice none 0 0]) (t := 69) rfl rfl ?_ Try.underlying69 rfl info_What rfl ?_
  · have h := Blk.new (w.alloc (.cells #[.int .u8 7, .int .i64 h, .int .u8 vk, .int .i64 vn, .string vs, .slice va vl vc, .int .i64 vr, .slice la ll lc, .int .i64 n, .int .i64 lost, .int .i64 of_, .int .i64 by_, .int .u8 st, .bool full, .slice ca cl cc, .slice na nl nc] 69)) [.int .u8 7, .int .i64 h, .int .u8 vk, .int .i64 vn, .string vs, .slice va vl vc, .int .i64 vr, .slice none 0 0, .int .i64 0, .int .i64 0, .int .i64 of_, .int .i64 0, .int .u8 0, .bool false, .slice none 0 0, .slice none 0 0] 69
    rw [World.size_alloc] at h
    exact h.alloc _
  · exact ⟨rfl, by repeat (first | exact Fr.refl _ _ | refine Fr.alloc ?_ _ | refine Fr.drew ?_ | refine Fr.drewN ?_ _)⟩
end Go.Proofs.Ytpgjbbefgacjkaa
