/- Package seal with a world that is none: nil, or made by no call. -/
import Derived.Test.YtkiinokhdmmagaaGreatMark
import Derived.Test.YtkiinokhdmmagaaGreatAlike
import Derived.Test.YtkiinokhdmmagaaGreatRoom
namespace Go.Proofs.YtkiinokhdmmagaaGreat
open Go.RowKit
set_option linter.unusedSimpArgs false
set_option linter.unusedVariables false
set_option linter.unusedSectionVars false
abbrev noWorld : List Value := [.slice none 0 0, .slice none 0 0, .map none, .map none, .int .i64 0, .slice none 0 0]
def NoW (w : World) (q : Option Addr) : Prop := q = none ∨ ∃ p, q = some ⟨p, 0, none⟩ ∧ Blk w p noWorld 38
theorem NoW.keep {w w' : World} {q : Option Addr} (h : NoW w q) (k : Fr none_ w w') : NoW w' q := by
  rcases h with rfl | ⟨p, rfl, hb⟩
  · exact .inl rfl
  · exact .inr ⟨p, rfl, hb.keep k (fun h => h)⟩
set_option maxRecDepth 100000 in
set_option maxHeartbeats 1000000 in
theorem wnone_no {w : World} {q : Option Addr} (h : NoW w q) : Calls Tryz.prog 59 #[.pointer q] w (Same (.bool true) w) := by
  rcases h with rfl | ⟨p, rfl, hb⟩
  · exact none_nil w
  · exact none_empty p w (hb.cell 2)
set_option maxRecDepth 100000 in
set_option maxHeartbeats 1000000 in
theorem sides_no {w : World} {q : Option Addr} (h : NoW w q) : Calls Tryz.prog 31 #[.pointer q] w (Same (.int .i64 0) w) := by
  have H := Lib.hid h; clear h
  go_enter Tryz.func31, Tryz.ntmps31
  go_wp2_with (refine (wnone_no H.out).mono ?_; rintro e w' ⟨rfl, rfl⟩)
  go_ret
  exact ⟨rfl, rfl⟩
set_option maxRecDepth 100000 in
set_option maxHeartbeats 1000000 in
theorem sthere_no {w : World} {q : Option Addr} (h : NoW w q) : Calls Tryz.prog 30 #[.pointer q] w (Same (.bool false) w) := by
  have H := Lib.hid h
  rcases h with rfl | ⟨p, rfl, hb⟩
  · go_enter Tryz.func30, Tryz.ntmps30
    go_wp2
    go_ret
    exact ⟨rfl, rfl⟩
  · clear hb
    go_enter Tryz.func30, Tryz.ntmps30
    go_wp2_with (refine (sides_no H.out).mono ?_; rintro e w' ⟨rfl, rfl⟩)
    go_ret
    exact ⟨rfl, rfl⟩
set_option maxRecDepth 100000 in
set_option maxHeartbeats 1000000 in
theorem pair_no {w : World} {q : Option Addr} (h : NoW w q) (s : Int) : Calls Tryz.prog 7 #[.pointer q, .int .i64 s] w (Same (.tuple #[.int .i64 0, .int .i64 0, .int .i64 1]) w) := by
  have H := Lib.hid h; clear h
  go_enter Tryz.func7, Tryz.ntmps7
  go_wp2_with (refine (sthere_no H.out).mono ?_; rintro e w' ⟨rfl, rfl⟩)
  go_ret3
  exact ⟨rfl, rfl⟩
set_option maxRecDepth 100000 in
set_option maxHeartbeats 1000000 in
theorem seal_no {w : World} {q : Option Addr} (h : NoW w q) (r : Int) (v : V) (va : Option Addr) (vc : Nat) : Calls Tryz.prog 8 #[.pointer q, .int .i64 r, v.agg va vc] w fun e w' => e = .returned (.tuple #[.int .i64 0, .int .i64 1]) ∧ Fr none_ w w' := by
  have hk := h.keep ((Fr.refl none_ w).alloc (.cells (v.cells va vc).toArray 28))
  have H := Lib.hid hk; clear h hk
  go_enter Tryz.func8, Tryz.ntmps8
  go_wp2_with fail
  refine (sthere_no H.out).mono ?_
  rintro e w' ⟨rfl, rfl⟩
  go_wp2
  go_ret2
  exact ⟨rfl, (Fr.refl _ _).alloc _⟩
def ZeroErr (w : World) (n : Int) (e : Ending) (w' : World) : Prop := e = .returned (.tuple #[.agg zero5.toArray, .int .i64 n]) ∧ Fr none_ w w'
set_option maxRecDepth 100000 in
set_option maxHeartbeats 1000000 in
theorem sopen_no {w : World} {q : Option Addr} (h : NoW w q) (r : Int) (v : V) (va : Option Addr) (vc : Nat) : Calls Tryz.prog 9 #[.pointer q, .int .i64 r, v.agg va vc] w (ZeroErr w 1) := by
  have hz := zero_Value
  have hb0 : ∀ W : World, (Instr.build 28 #[]).run Tryz.prog W = .ok (.agg #[.int .u8 0, .int .i64 0, .string ⟨#[]⟩, .slice none 0 0, .int .i64 0]) W := fun W => by kernel_rfl
  have hf : Fr none_ w ((w.alloc (.cells (v.cells va vc).toArray 28)).alloc (.cells zero5.toArray 28)) := ((Fr.refl none_ w).alloc _).alloc _
  have hk := h.keep hf
  have hb := Blk.new (w.alloc (.cells (v.cells va vc).toArray 28)) zero5 28
  rw [World.size_alloc] at hb
  have HB := Lib.hid hb; clear hb
  have H := Lib.hid hk; clear h hk
  have HF := Lib.hid hf; clear hf
  go_enter Tryz.func9, Tryz.ntmps9
  go_wp2_with fail
  refine (sthere_no H.out).mono ?_
  rintro e w' ⟨rfl, rfl⟩
  go_wp2_with (refine wpList_stop (.store 28 (.tmp 6) (.tmp 17)) rfl ?_)
  refine Stop.mk ?_
  refine wpList_store_blk (cs := zero5) (t := 28) rfl 28 (.tmp 6) (.tmp 17) rfl (w.heap.size + 1) 0 zero5 ?e1 ?e2 HB.out (by simp) size_Value rfl ?_
  case e1 => rfl
  case e2 => rfl
  go_wp2
  refine ret_blk2 (g := w.heap.size + 1) (cs := zero5) (t := 28) rfl rfl ?_ Tryz.underlying28 rfl size_Value rfl ?_
  · exact HB.out.setCells 0 zero5 (by simp)
  · exact ⟨rfl, HF.out.setCells _ _ _ (fun h => by omega)⟩
set_option maxRecDepth 100000 in
set_option maxHeartbeats 1000000 in
theorem do_no {w : World} {q : Option Addr} (h : NoW w q) (r a : Int) (v : V) (va : Option Addr) (vc : Nat) : Calls Tryz.prog 10 #[.pointer q, .int .i64 r, .int .u8 a, v.agg va vc] w (ZeroErr w 1) := by
  have hz := zero_Value
  have hb0 : ∀ W : World, (Instr.build 28 #[]).run Tryz.prog W = .ok (.agg #[.int .u8 0, .int .i64 0, .string ⟨#[]⟩, .slice none 0 0, .int .i64 0]) W := fun W => by kernel_rfl
  have hf : Fr none_ w ((w.alloc (.cells (v.cells va vc).toArray 28)).alloc (.cells zero5.toArray 28)) := ((Fr.refl none_ w).alloc _).alloc _
  have hk := h.keep hf
  have hb := Blk.new (w.alloc (.cells (v.cells va vc).toArray 28)) zero5 28
  rw [World.size_alloc] at hb
  have HB := Lib.hid hb; clear hb
  have H := Lib.hid hk; clear h hk
  have HF := Lib.hid hf; clear hf
  go_enter Tryz.func10, Tryz.ntmps10
  go_wp2_with fail
  refine (sthere_no H.out).mono ?_
  rintro e w' ⟨rfl, rfl⟩
  go_wp2_with (refine wpList_stop (.store 28 (.tmp 8) (.tmp 18)) rfl ?_)
  refine Stop.mk ?_
  refine wpList_store_blk (cs := zero5) (t := 28) rfl 28 (.tmp 8) (.tmp 18) rfl (w.heap.size + 1) 0 zero5 ?e1 ?e2 HB.out (by simp) size_Value rfl ?_
  case e1 => rfl
  case e2 => rfl
  go_wp2
  refine ret_blk2 (g := w.heap.size + 1) (cs := zero5) (t := 28) rfl rfl ?_ Tryz.underlying28 rfl size_Value rfl ?_
  · exact HB.out.setCells 0 zero5 (by simp)
  · exact ⟨rfl, HF.out.setCells _ _ _ (fun h => by omega)⟩
set_option maxRecDepth 100000 in
set_option maxHeartbeats 1000000 in
theorem spair_no {w : World} {q : Option Addr} (h : NoW w q) (r : Int) : Calls Tryz.prog 41 #[.pointer q, .int .i64 r] w (Same (.tuple #[.int .i64 0, .int .i64 1]) w) := by
  have H := Lib.hid h; clear h
  go_enter Tryz.func41, Tryz.ntmps41
  go_wp2_with (refine (sthere_no H.out).mono ?_; rintro e w' ⟨rfl, rfl⟩)
  go_ret2
  exact ⟨rfl, rfl⟩
set_option maxRecDepth 100000 in
set_option maxHeartbeats 1000000 in
theorem smark_no {w : World} {q : Option Addr} (h : NoW w q) (r : Int) : Calls Tryz.prog 11 #[.pointer q, .int .i64 r] w (Same (.tuple #[Value.nilIface, .int .i64 1]) w) := by
  have H := Lib.hid h; clear h
  go_enter Tryz.func11, Tryz.ntmps11
  go_wp2_with (refine (spair_no H.out r).mono ?_; rintro e w' ⟨rfl, rfl⟩)
  go_ret2
  exact ⟨rfl, rfl⟩
set_option maxRecDepth 100000 in
set_option maxHeartbeats 1000000 in
theorem same_no {w : World} {q : Option Addr} (h : NoW w q) (r s : Int) : Calls Tryz.prog 12 #[.pointer q, .int .i64 r, .int .i64 s] w (Same (.tuple #[.bool false, .int .i64 1]) w) := by
  have H := Lib.hid h; clear h
  go_enter Tryz.func12, Tryz.ntmps12
  go_wp2_with fail
  refine (sthere_no H.out).mono ?_
  rintro e w' ⟨rfl, rfl⟩
  go_wp2_with fail
  refine (smark_no H.out r).mono ?_
  rintro e w' ⟨rfl, rfl⟩
  go_wp2
  go_ret2
  exact ⟨rfl, rfl⟩
set_option maxRecDepth 100000 in
set_option maxHeartbeats 1000000 in
theorem nothing_zero (w : World) : Calls Tryz.prog 15 #[.agg zero5.toArray] w (Bool_ w true) := by
  have hb0 : ∀ W : World, (Instr.build 28 #[]).run Tryz.prog W = .ok (.agg #[.int .u8 0, .int .i64 0, .string ⟨#[]⟩, .slice none 0 0, .int .i64 0]) W := fun W => by kernel_rfl
  go_enter Tryz.func15, Tryz.ntmps15
  go_wp2_with fail
  refine (alike_any V.zero V.zero (List.mem_singleton_self _) V.zero none_ none_ True True none none 0 0 _ (RV_zero _ _ _) (RV_zero _ _ _) (fun _ h => h.elim) (fun _ h => h.elim)).mono ?_
  rintro e w1 ⟨rfl, hf⟩
  have HF := Lib.hid ((Fr.refl none_ w).alloc (.cells zero5.toArray 28) |>.trans hf); clear hf
  rw [show alikeV V.zero V.zero = true from rfl]
  go_wp2
  go_ret
  exact ⟨rfl, HF.out⟩
end Go.Proofs.YtkiinokhdmmagaaGreat
