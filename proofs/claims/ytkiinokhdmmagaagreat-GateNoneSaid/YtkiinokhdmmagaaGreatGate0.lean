/- 'fits' of package world at switches and gates; a cell and a switch made. -/
import Derived.Test.YtkiinokhdmmagaaGreatMakes
import Derived.Test.YtkiinokhdmmagaaGreatMakeSW
import Derived.Test.YtkiinokhdmmagaaGreatFormC
import Derived.Test.YtkiinokhdmmagaaGreatFormD
namespace Go.Proofs.YtkiinokhdmmagaaGreat
open Go.RowKit
set_option linter.unusedSimpArgs false
set_option linter.unusedVariables false
set_option linter.unusedSectionVars false
section
variable {w : World} {p : Nat} {W : AW} {M D : Nat → Prop} {pa : Option Addr} {pc bc bt bf bm ck fk : Nat} {L : List (Int × Nat × Nat)} {FL : List ((Int × Int) × Int × Nat)}
def Quiet_ (w : World) (v : Value) (e : Ending) (w' : World) : Prop := e = .returned v ∧ ∃ m, w' = w.drewN m
theorem Quiet_.bool {w : World} {b : Bool} {e : Ending} {w' : World} (h : Quiet_ w (.bool b) e w') : Bool_ w b e w' := by
  obtain ⟨rfl, m, rfl⟩ := h
  exact ⟨rfl, (Fr.refl _ _).drewN m⟩
set_option maxRecDepth 100000 in
set_option maxHeartbeats 2000000 in
theorem there_q (h : RepW w p W M D pa pc bc bt bf bm ck fk L FL) (of k home : Int) (bw bx : Nat) (hk : k ≠ 0) (hb : w.cell? ⟨bw, 0, none⟩ = some (.pointer (some ⟨p, 0, none⟩))) (hx : w.cell? ⟨bx, 1, none⟩ = some (.int .i64 home)) :
    Calls Tryz.prog 91 #[.int .i64 of, .int .u8 k, .pointer (some ⟨bw, 0, none⟩), .pointer (some ⟨bx, 0, none⟩)] w (Quiet_ w (.bool (thereB W of k home))) := by
  have c2 := h.c2
  have hl : ∀ n, (Instr.lookup 34 (.map (some bt)) (.int .i64 of) false).run Tryz.prog (w.drewN n) = .ok (.pointer ((blkOf L of).map fun b => ⟨b, 0, none⟩)) (w.drewN n) := fun n => look_run (h.keep (S := none_) ((Fr.refl none_ w).drewN n) (fun _ _ h => h) (fun _ _ h => h)) of
  have HF : ∀ n, RepW (w.drewN n) p W M D pa pc bc bt bf bm ck fk L FL := fun n => h.keep (S := none_) ((Fr.refl none_ w).drewN n) (fun _ _ h => h) (fun _ _ h => h)
  have HH := Lib.hid HF; clear HF
  rcases h.look of with ⟨h1, h2⟩ | ⟨x, b, u, h1, h2, hm, hbx, hrx⟩
  · have hko : kindOf W of = 0 := by unfold kindOf; rw [h1]
    have d : ((0 : Int) == k) = false := by simpa using fun e => hk e.symm
    have hr : thereB W of k home = false := by unfold thereB; rw [h1]
    have HR := Lib.hid hr; clear hr
    have HK := Lib.hid hko; clear hko
    clear h h1 h2 hl hk
    go_enter Tryz.func91, Tryz.ntmps91
    go_wp2
    go_quiet ((go_at_call 37; refine Calls.quiet_of_same (v := .int .u8 (0)) ((kind_any (HH.out _) of).mono ?_); rintro e w' ⟨rfl, rfl⟩; rw [HK.out]; exact ⟨rfl, rfl⟩))
    go_wp2
    go_ret
    exact ⟨ret_bool HR.out.symm, _, rfl⟩
  · have hko : kindOf W of = x.kind := by unfold kindOf; rw [h1]
    have HK := Lib.hid hko; clear hko
    rw [h2] at hl
    simp only [Option.map_some] at hl
    have k1 : w.cell? ⟨b, 1, none⟩ = some (.int .i64 x.home) := hbx.cell 1
    have hr : thereB W of k home = (decide (x.kind = k) && decide (x.home = home)) := by unfold thereB; rw [h1]
    have HR := Lib.hid hr; clear hr
    clear h h1 h2 hbx hrx hm
    by_cases e : x.kind = k
    · have d : (x.kind == k) = true := by simpa using e
      have E := Lib.hid e; clear e
      go_enter Tryz.func91, Tryz.ntmps91
      go_wp2
      go_quiet ((go_at_call 37; refine Calls.quiet_of_same (v := .int .u8 (x.kind)) ((kind_any (HH.out _) of).mono ?_); rintro e w' ⟨rfl, rfl⟩; rw [HK.out]; exact ⟨rfl, rfl⟩))
      go_wp2
      go_ret
      exact ⟨ret_bool (by rw [HR.out]; simp [E.out]; rfl), _, rfl⟩
    · have d : (x.kind == k) = false := by simpa using e
      have E := Lib.hid e; clear e
      go_enter Tryz.func91, Tryz.ntmps91
      go_wp2
      go_quiet ((go_at_call 37; refine Calls.quiet_of_same (v := .int .u8 (x.kind)) ((kind_any (HH.out _) of).mono ?_); rintro e w' ⟨rfl, rfl⟩; rw [HK.out]; exact ⟨rfl, rfl⟩))
      go_wp2
      go_ret
      exact ⟨ret_bool (by rw [HR.out]; simp [E.out]), _, rfl⟩
/-- A gate's switch has this gate. -/
def gateB (W : AW) (b r : Int) : Bool := match W.at_ b with | some y => decide (y.of_ = r) | none => false
set_option maxRecDepth 100000 in
set_option maxHeartbeats 4000000 in
theorem fits_13 (h : RepW w p W M D pa pc bc bt bf bm ck fk L FL) (r : Int) (x : X) (u : Under) (hk : x.kind = 13) (hof : x.of_ = 0) : Calls Tryz.prog 65 #[.pointer (some ⟨p, 0, none⟩), .int .i64 r, x.agg u] w (Bool_ w true) := by
  have H := Lib.hid h; clear h
  have hmf : ∀ (fn : Fn) (first cap : Array Value) (w : World), (Instr.makeFunc fn first cap).run Tryz.prog w = .ok (.func fn first cap) w := fun _ _ _ _ => rfl
  have d6 : (x.kind == 6) = false := by simp [hk]
  have d7 : (x.kind == 7) = false := by simp [hk]
  have d9 : (x.kind == 9) = false := by simp [hk]
  have d11 : (x.kind == 11) = false := by simp [hk]
  have d15 : (x.kind == 15) = false := by simp [hk]
  have d16 : (x.kind == 16) = false := by simp [hk]
  have d13 : (x.kind == 13) = true := by simp [hk]
  have d0 : (x.of_ == 0) = true := by simp [hof]
  clear hk hof
  go_enter Tryz.func65, Tryz.ntmps65
  go_wp2
  go_quiet (fail)
  go_wp2
  go_ret
  exact ⟨rfl, (((Fr.refl _ _).alloc _).alloc _).drewN _⟩
set_option maxRecDepth 100000 in
set_option maxHeartbeats 4000000 in
theorem fits_15y (h : RepW w p W M D pa pc bc bt bf bm ck fk L FL) (r : Int) (x y : X) (u : Under) (hk : x.kind = 15) (hth : thereB W x.by_ 13 x.home = true) (hof : (W.at_ x.of_).isSome = true) (hby : W.at_ x.by_ = some y) (hyr : y.of_ = r) :
    Calls Tryz.prog 65 #[.pointer (some ⟨p, 0, none⟩), .int .i64 r, x.agg u] w (Bool_ w true) := by
  have hmf : ∀ (fn : Fn) (first cap : Array Value) (w : World), (Instr.makeFunc fn first cap).run Tryz.prog w = .ok (.func fn first cap) w := fun _ _ _ _ => rfl
  have d6 : (x.kind == 6) = false := by simp [hk]
  have d7 : (x.kind == 7) = false := by simp [hk]
  have d9 : (x.kind == 9) = false := by simp [hk]
  have d11 : (x.kind == 11) = false := by simp [hk]
  have d15 : (x.kind == 15) = true := by simp [hk]
  have hq : (y.of_ == r) = true := by simp [hyr]
  obtain ⟨b, hbl, u', hby'⟩ : ∃ b, blkOf L x.by_ = some b ∧ ∃ u', Blk w b (y.cells u') 80 := by
    rcases h.look x.by_ with ⟨h1, h2⟩ | ⟨x', b, u', h1, h2, hm, hbx, hrx⟩
    · rw [hby] at h1; cases h1
    · rw [hby] at h1; injection h1 with h1; subst h1; exact ⟨b, h2, u', hbx⟩
  have H := Lib.hid h; clear h
  have HTH := Lib.hid hth; clear hth
  have HOF := Lib.hid hof; clear hof
  have HBL := Lib.hid hbl; clear hbl
  have HBY := Lib.hid hby'; clear hby'
  clear hk hby hyr
  go_enter Tryz.func65, Tryz.ntmps65
  go_upto_region 12 with (fail)
  refine code_gen ?_
  intro W1 hW
  have hb0 : Blk W1 w.heap.size [.pointer (some ⟨p, 0, none⟩)] 31 := by rw [hW]; exact (Blk.new w _ _).alloc _
  have hb1 : Blk W1 (w.heap.size + 1) (x.cells u) 80 := by rw [hW]; have h := Blk.new (w.alloc (.cells #[.pointer (some ⟨p, 0, none⟩)] 31)) (x.cells u) 80; rw [World.size_alloc] at h; exact h
  have hf : Fr none_ w W1 := by rw [hW]; exact ((Fr.refl _ _).alloc _).alloc _
  clear hW
  have x0 : W1.cell? ⟨w.heap.size, 0, none⟩ = some (.pointer (some ⟨p, 0, none⟩)) := hb0.cell 0
  have y1 : W1.cell? ⟨w.heap.size + 1, 1, none⟩ = some (.int .i64 x.home) := hb1.cell 1
  have y10 : W1.cell? ⟨w.heap.size + 1, 10, none⟩ = some (.int .i64 x.of_) := hb1.cell 10
  have y11 : W1.cell? ⟨w.heap.size + 1, 11, none⟩ = some (.int .i64 x.by_) := hb1.cell 11
  have z10 : W1.cell? ⟨b, 10, none⟩ = some (.int .i64 y.of_) := (HBY.out.keep hf (fun h => h)).cell 10
  have h1 := H.out.keep hf (fun _ _ h => h) (fun _ _ h => h)
  have c2 := h1.c2
  have HQ : ∀ n, RepW (W1.drewN n) p W M D pa pc bc bt bf bm ck fk L FL := fun n => h1.keep (S := none_) ((Fr.refl none_ _).drewN n) (fun _ _ h => h) (fun _ _ h => h)
  have hl : ∀ n, (Instr.lookup 34 (.map (some bt)) (.int .i64 x.by_) false).run Tryz.prog (W1.drewN n) = .ok (.pointer (some ⟨b, 0, none⟩)) (W1.drewN n) := fun n => by
    have := look_run (HQ n) x.by_
    rw [HBL.out] at this
    exact this
  have HB0 := Lib.hid hb0; clear hb0
  have HB1 := Lib.hid hb1; clear hb1
  have HF := Lib.hid hf; clear hf
  have HH := Lib.hid HQ; clear HQ h1
  have X0 := Lib.hid x0
  have Y1 := Lib.hid y1
  go_quiet ((first
    | (go_at_call 91; refine Calls.quiet_of (v := .bool true) ((there_q (HH.out _) x.by_ 13 x.home _ _ (by decide) X0.out Y1.out).mono ?_); rintro e w' ⟨rfl, m, rfl⟩; rw [HTH.out]; exact ⟨rfl, m, rfl⟩)
    | (go_at_call 35; refine Calls.quiet_of_same (v := .bool true) ((is_any (HH.out _) x.of_).mono ?_); rintro e w' ⟨rfl, rfl⟩; rw [HOF.out]; exact ⟨rfl, rfl⟩)))
  go_wp2
  go_ret
  exact ⟨rfl, HF.out.drewN _⟩
/-! ### things of these layers -/
abbrev xSw (h of_ : Int) (full : Bool) : X := { kind := 13, home := h, val := V.zero, vals := [], n := 0, lost := 0, of_ := of_, by_ := 0, set := 0, full := full, code := [], names := [] }
abbrev xGt (h of_ by_ : Int) : X := { kind := 15, home := h, val := V.zero, vals := [], n := 0, lost := 0, of_ := of_, by_ := by_, set := 0, full := false, code := [], names := [] }
theorem xSw_RX {w : World} {D : Nat → Prop} {z : Prop} {h of_ : Int} {full : Bool} (hh : I64 h) (ho : I64 of_) : RX w D z (xSw h of_ full) (uOf none 0) :=
  { xOf_RX (k := 13) (h := h) (of_ := of_) (v := V.zero) (A := none) (c := 0) (by unfold U8; omega) hh ho (RV_zero w D z) with }
theorem xGt_RX {w : World} {D : Nat → Prop} {z : Prop} {h of_ by_ : Int} (hh : I64 h) (ho : I64 of_) (hb : I64 by_) : RX w D z (xGt h of_ by_) (uOf none 0) :=
  { xOf_RX (k := 15) (h := h) (of_ := of_) (v := V.zero) (A := none) (c := 0) (by unfold U8; omega) hh ho (RV_zero w D z) with by_ := hb }
theorem names_zero (h : RepW w p W M D pa pc bc bt bf bm ck fk L FL) (x : X) (u : Under) (hv : x.val = V.zero) (hu : u.va = none ∧ u.vc = 0) (hp : x.plain) (w' : World) (hf : Fr none_ w w') : Calls Tryz.prog 62 #[.pointer (some ⟨p, 0, none⟩), x.agg u] w' (Bool_ w' true) := by
  have hk := h.keep hf (fun _ _ h => h) (fun _ _ h => h)
  have hr : RV w' none_ True x.val (x.val.cells u.va u.vc) := by rw [hv, hu.1, hu.2]; exact RV_zero _ _ _
  have := names_0 hk x u none_ True (by rw [hp.1]; rfl) (by rw [hp.2.2]; rfl) hr (fun b hb => hb.elim)
  have e : allThings W x.val.refs = true := by rw [hv, refs_zero]; rfl
  rw [e] at this
  exact this
theorem make_cell (h : RepW w p W M D pa pc bc bt bf bm ck fk L FL) (s : Int) (hs : sideB W s = true) (hm : W.made.getD s.toNat 0 < 512) :
    Calls Tryz.prog 33 #[.pointer (some ⟨p, 0, none⟩), (xOf 1 s 0 V.zero).agg (uOf none 0)] w (MakeOut w p W M D pa pc bc bt bf bm fk FL (xOf 1 s 0 V.zero)) := by
  have hk : ∀ w', Fr none_ w w' → RepW w' p W M D pa pc bc bt bf bm ck fk L FL := fun w' hf => h.keep hf (fun _ _ h => h) (fun _ _ h => h)
  refine make_FF h (xOf 1 s 0 V.zero) (uOf none 0) none_ True (xOf_plain _ _ _ _) may_zero (xOf_RX (by unfold U8; omega) (side_I64 h hs) (by unfold I64; omega) (RV_zero _ _ _)) (fun i hi => hi.elim) (by simp) (by simp) (by simp) rfl rfl (fun w' hf => ?_) (fun w' hf => names_zero h _ _ rfl ⟨rfl, rfl⟩ (xOf_plain _ _ _ _) w' hf) (fun w' hf => fits_t 0 _ _ (by simp) w') hs hm
  have := form_1b (hk w' hf) s hs V.zero none 0 none_ True (RV_zero _ _ _) (fun b hb => hb.elim) blankB_zero
  rw [may_zero] at this
  exact this
theorem make_switch (h : RepW w p W M D pa pc bc bt bf bm ck fk L FL) (s : Int) (hs : sideB W s = true) (hm : W.made.getD s.toNat 0 < 512) :
    Calls Tryz.prog 33 #[.pointer (some ⟨p, 0, none⟩), (xSw s 0 false).agg (uOf none 0)] w (MakeOut w p W M D pa pc bc bt bf bm fk FL (xSw s 0 false)) := by
  have hk : ∀ w', Fr none_ w w' → RepW w' p W M D pa pc bc bt bf bm ck fk L FL := fun w' hf => h.keep hf (fun _ _ h => h) (fun _ _ h => h)
  exact make_SW h (xSw s 0 false) (uOf none 0) none_ True (xOf_plain 13 s 0 V.zero) may_zero (xSw_RX (side_I64 h hs) (by unfold I64; omega)) (fun i hi => hi.elim) (by simp) (by simp) (by simp) rfl rfl rfl (fun w' hf => form_13 (hk w' hf) s hs 0 false) (fun w' hf => names_zero h _ _ rfl ⟨rfl, rfl⟩ (xOf_plain 13 s 0 V.zero) w' hf) (fun w' hf => fits_13 (hk w' hf) 0 _ _ rfl rfl) hs hm
end
end Go.Proofs.YtkiinokhdmmagaaGreat
