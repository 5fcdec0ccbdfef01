/- 'Own', 'all', 'Of' of package value; 'own' of package world. -/
import Derived.Test.YtpgjbbefgacjkaaOwn
namespace Go.Proofs.Ytpgjbbefgacjkaa
open Go.RowKit
set_option linter.unusedSimpArgs false
set_option linter.unusedVariables false

/-- A value and a number handed back. -/
def OwnOut2 (w : World) (v : V) (n : Int) (e : Ending) (w' : World) : Prop := ∃ A c, e = .returned (.tuple #[v.agg A c, .int .i64 n]) ∧ RV w' (w.heap.size ≤ ·) True v (v.cells A c) ∧ Fr none_ w w'
abbrev zero5 : List Value := [.int .u8 0, .int .i64 0, .string ⟨#[]⟩, .slice none 0 0, .int .i64 0]
theorem RV_zero (w : World) (D : Nat → Prop) (z : Prop) : RV w D z V.zero zero5 := by
  unfold V.zero RV
  exact ⟨by unfold U8; omega, by unfold I64; omega, by unfold I64; omega, Nat.zero_le _, by simp, none, 0, rfl, Nat.le_refl _, by unfold RVs; trivial⟩
theorem build_zero (W : World) : (Instr.build 37 #[]).run Try.prog W = .ok (.agg #[.int .u8 0, .int .i64 0, .string ⟨#[]⟩, .slice none 0 0, .int .i64 0]) W := by kernel_rfl
theorem zero_Value (W : World) : (zeroValue 37).run Try.prog W = .ok (.agg #[.int .u8 0, .int .i64 0, .string ⟨#[]⟩, .slice none 0 0, .int .i64 0]) W := by kernel_rfl
set_option maxRecDepth 100000 in
set_option maxHeartbeats 1000000 in
theorem Own_yes (D : Nat → Prop) (z : Prop) (v : V) (A : Option Addr) (c : Nat) (w : World) (hm : v.may = true) (hv : RV w D z v (v.cells A c)) (hD : ∀ b, D b → b < w.heap.size) :
    Calls Try.prog 94 #[v.agg A c] w (OwnOut2 w v 0) := by
  have HM := Lib.hid hm; clear hm
  have HV := Lib.hid hv; clear hv
  have HD := Lib.hid hD; clear hD
  go_enter Try.func94, Try.ntmps94
  go_wp2_with fail
  refine (may_any D z v A c _ (HV.out.fr (((Fr.refl none_ w).alloc _).alloc _) (fun _ _ h => h)) (fun b hd => by have := HD.out b hd; simp; omega)).mono ?_
  rintro e w1 ⟨rfl, hf⟩
  rw [HM.out]
  have hb0 := ((Blk.new w [.int .u8 v.k, .int .i64 v.n, .string v.s, .slice A v.l.length c, .int .i64 v.r] 37).alloc (.cells #[.int .u8 0, .int .i64 0, .string ⟨#[]⟩, .slice none 0 0, .int .i64 0] 37)).keep hf (fun h => h)
  have hb1 := Blk.new (w.alloc (.cells #[.int .u8 v.k, .int .i64 v.n, .string v.s, .slice A v.l.length c, .int .i64 v.r] 37)) zero5 37
  rw [World.size_alloc] at hb1
  have hb2 := hb1.keep hf (fun h => h)
  have x0 : w1.cell? ⟨w.heap.size, 0, none⟩ = some (.int .u8 v.k) := hb0.cell 0
  have x1 : w1.cell? ⟨w.heap.size, 1, none⟩ = some (.int .i64 v.n) := hb0.cell 1
  have x2 : w1.cell? ⟨w.heap.size, 2, none⟩ = some (.string v.s) := hb0.cell 2
  have x3 : w1.cell? ⟨w.heap.size, 3, none⟩ = some (.slice A v.l.length c) := hb0.cell 3
  have x4 : w1.cell? ⟨w.heap.size, 4, none⟩ = some (.int .i64 v.r) := hb0.cell 4
  have hfw := ((((Fr.refl none_ w).alloc (.cells #[.int .u8 v.k, .int .i64 v.n, .string v.s, .slice A v.l.length c, .int .i64 v.r] 37)).alloc (.cells #[.int .u8 0, .int .i64 0, .string ⟨#[]⟩, .slice none 0 0, .int .i64 0] 37)).trans hf)
  have HFW := Lib.hid hfw; clear hfw
  have HF := Lib.hid hf; clear hf
  have HB2 := Lib.hid hb2; clear hb2 hb1 hb0
  go_wp2_with fail
  refine (own_any v v (List.mem_singleton_self v) D z A c _ (HV.out.fr HFW.out (fun _ _ h => h)) (fun b hd => by have := HD.out b hd; have := HFW.out.size; omega)).mono ?_
  rintro e w2 ⟨A2, c2, rfl, hv2, hf2⟩
  have HV2 := Lib.hid hv2; clear hv2
  have hb3 := HB2.out.keep hf2 (fun h => h)
  have HB3 := Lib.hid hb3; clear hb3
  have HF2 := Lib.hid hf2; clear hf2
  go_wp2_with (refine wpList_stop (.store 37 (.tmp 2) (.tmp 9)) rfl ?_)
  refine Stop.mk ?_
  refine wpList_store_blk (cs := zero5) (t := 37) rfl 37 (.tmp 2) (.tmp 9) rfl (w.heap.size + 1) 0 (v.cells A2 c2) ?e1 ?e2 HB3.out (by simp) size_Value rfl ?_
  case e1 => rfl
  case e2 => rfl
  go_wp2
  refine ret_blk2 (g := w.heap.size + 1) (cs := v.cells A2 c2) (t := 37) rfl rfl ?_ Try.underlying37 rfl size_Value rfl ?_
  · exact HB3.out.setCells 0 (v.cells A2 c2) (by simp)
  · have hst : Fr (· = w.heap.size + 1) w2 (w2.setCells (w.heap.size + 1) 0 (v.cells A2 c2)) := (Fr.refl _ w2).setCells _ _ _ (fun _ => rfl)
    have hsz := HFW.out.size
    have hsz1 := HF.out.size
    refine ⟨A2, c2, rfl, (HV2.out.fr hst (fun b hb e => ?_)).mono (fun b hb => by omega), (HFW.out.trans HF2.out).setCells _ _ _ (fun h => by omega)⟩
    rw [World.size_alloc, World.size_alloc] at hsz1
    omega
set_option maxRecDepth 100000 in
set_option maxHeartbeats 1000000 in
theorem Own_no (D : Nat → Prop) (z : Prop) (v : V) (A : Option Addr) (c : Nat) (w : World) (hm : v.may = false) (hv : RV w D z v (v.cells A c)) (hD : ∀ b, D b → b < w.heap.size) :
    Calls Try.prog 94 #[v.agg A c] w (OwnOut2 w V.zero 2) := by
  have HM := Lib.hid hm; clear hm
  have HV := Lib.hid hv; clear hv
  have HD := Lib.hid hD; clear hD
  have hbz := build_zero
  go_enter Try.func94, Try.ntmps94
  go_wp2_with fail
  refine (may_any D z v A c _ (HV.out.fr (((Fr.refl none_ w).alloc _).alloc _) (fun _ _ h => h)) (fun b hd => by have := HD.out b hd; simp; omega)).mono ?_
  rintro e w1 ⟨rfl, hf⟩
  rw [HM.out]
  have hb1 := Blk.new (w.alloc (.cells #[.int .u8 v.k, .int .i64 v.n, .string v.s, .slice A v.l.length c, .int .i64 v.r] 37)) zero5 37
  rw [World.size_alloc] at hb1
  have hb2 := hb1.keep hf (fun h => h)
  have hfw := ((((Fr.refl none_ w).alloc (.cells #[.int .u8 v.k, .int .i64 v.n, .string v.s, .slice A v.l.length c, .int .i64 v.r] 37)).alloc (.cells #[.int .u8 0, .int .i64 0, .string ⟨#[]⟩, .slice none 0 0, .int .i64 0] 37)).trans hf)
  have HFW := Lib.hid hfw; clear hfw
  clear hf
  have HB2 := Lib.hid hb2; clear hb2 hb1
  go_wp2_with (refine wpList_stop (.store 37 (.tmp 2) (.tmp 7)) rfl ?_)
  refine Stop.mk ?_
  refine wpList_store_blk (cs := zero5) (t := 37) rfl 37 (.tmp 2) (.tmp 7) rfl (w.heap.size + 1) 0 zero5 ?e1 ?e2 HB2.out (by simp) size_Value rfl ?_
  case e1 => rfl
  case e2 => rfl
  go_wp2
  refine ret_blk2 (g := w.heap.size + 1) (cs := zero5) (t := 37) rfl rfl ?_ Try.underlying37 rfl size_Value rfl ?_
  · exact HB2.out.setCells 0 zero5 (by simp)
  · exact ⟨none, 0, rfl, RV_zero _ _ _, HFW.out.setCells _ _ _ (fun h => by omega)⟩
set_option maxRecDepth 100000 in
set_option maxHeartbeats 1000000 in
theorem wown_any (D : Nat → Prop) (z : Prop) (v : V) (A : Option Addr) (c : Nat) (w : World) (hm : v.may = true) (hv : RV w D z v (v.cells A c)) (hD : ∀ b, D b → b < w.heap.size) :
    Calls Try.prog 77 #[v.agg A c] w (OwnOut w v) := by
  have HM := Lib.hid hm; clear hm
  have HV := Lib.hid hv; clear hv
  have HD := Lib.hid hD; clear hD
  go_enter Try.func77, Try.ntmps77
  go_wp2_with fail
  refine (Own_yes D z v A c _ HM.out (HV.out.fr (((Fr.refl none_ w).alloc _).alloc _) (fun _ _ h => h)) (fun b hd => by have := HD.out b hd; simp; omega)).mono ?_
  rintro e w1 ⟨A2, c2, rfl, hv2, hf⟩
  have hb1 := Blk.new (w.alloc (.cells #[.int .u8 v.k, .int .i64 v.n, .string v.s, .slice A v.l.length c, .int .i64 v.r] 37)) zero5 37
  rw [World.size_alloc] at hb1
  have hb2 := hb1.keep hf (fun h => h)
  have hfw := ((((Fr.refl none_ w).alloc (.cells #[.int .u8 v.k, .int .i64 v.n, .string v.s, .slice A v.l.length c, .int .i64 v.r] 37)).alloc (.cells #[.int .u8 0, .int .i64 0, .string ⟨#[]⟩, .slice none 0 0, .int .i64 0] 37)).trans hf)
  have hsz := hf.size
  rw [World.size_alloc, World.size_alloc] at hsz
  have HSZ := Lib.hid hsz; clear hsz
  have HFW := Lib.hid hfw; clear hfw hf
  have HV2 := Lib.hid hv2; clear hv2
  have HB2 := Lib.hid hb2; clear hb2 hb1
  go_wp2_with (refine wpList_stop (.store 37 (.tmp 2) (.tmp 10)) rfl ?_)
  refine Stop.mk ?_
  have hb3 := HB2.out.alloc (.cells #[.int .u8 v.k, .int .i64 v.n, .string v.s, .slice A2 v.l.length c2, .int .i64 v.r] 37)
  refine wpList_store_blk (cs := zero5) (t := 37) rfl 37 (.tmp 2) (.tmp 10) rfl (w.heap.size + 1) 0 (v.cells A2 c2) ?e1 ?e2 hb3 (by simp) size_Value rfl ?_
  case e1 => rfl
  case e2 => rfl
  have HB3 := Lib.hid hb3; clear hb3
  go_wp2
  refine ret_blk (g := w.heap.size + 1) (cs := v.cells A2 c2) (t := 37) rfl rfl ?_ Try.underlying37 rfl size_Value rfl ?_
  · exact HB3.out.setCells 0 (v.cells A2 c2) (by simp)
  · have hst : Fr (· = w.heap.size + 1) (w1.alloc (.cells #[.int .u8 v.k, .int .i64 v.n, .string v.s, .slice A2 v.l.length c2, .int .i64 v.r] 37)) ((w1.alloc (.cells #[.int .u8 v.k, .int .i64 v.n, .string v.s, .slice A2 v.l.length c2, .int .i64 v.r] 37)).setCells (w.heap.size + 1) 0 (v.cells A2 c2)) := (Fr.refl _ _).setCells _ _ _ (fun _ => rfl)
    have hsz := HSZ.out
    refine ⟨A2, c2, rfl, ((HV2.out.fr ((Fr.refl none_ w1).alloc _) (fun b hb e => e)).fr hst (fun b hb e => ?_)).mono (fun b hb => ?_), (HFW.out.alloc _).setCells _ _ _ (fun h => by omega)⟩
    · rw [World.size_alloc, World.size_alloc] at hb; omega
    · rw [World.size_alloc, World.size_alloc] at hb; omega

/-! ### all, Of -/
theorem RVs.lt {w : World} {D : Nat → Prop} {z : Prop} {l : List V} {A : Option Addr} {i : Nat} (h : RVs w D z l A) (hi : i < l.length) : True := trivial
def mayAll (l : List V) : Bool := l.all V.may
def AllRel (w : World) (l : List V) (k : Nat) (i : Value) (wr : World) : Prop := ∃ j : Nat, j + k = l.length ∧ i = .int .i64 (j : Int) ∧ (∀ x, x ∈ l.take j → x.may = true) ∧ Fr none_ w wr
set_option maxRecDepth 100000 in
set_option maxHeartbeats 1000000 in
theorem notmay_any (D : Nat → Prop) (z : Prop) (v : V) (A : Option Addr) (c : Nat) (w : World) (hv : RV w D z v (v.cells A c)) (hD : ∀ b, D b → b < w.heap.size) :
    Calls Try.prog 100 #[v.agg A c] w (Bool_ w (!v.may)) := by
  have HV := Lib.hid hv; clear hv
  have HD := Lib.hid hD; clear hD
  go_enter Try.func100, Try.ntmps100
  go_wp2_with fail
  refine (may_any D z v A c _ (HV.out.fr ((Fr.refl none_ w).alloc _) (fun _ _ h => h)) (fun b hd => by have := HD.out b hd; simp; omega)).mono ?_
  rintro e w1 ⟨rfl, hf⟩
  have HF := Lib.hid hf; clear hf
  go_wp2
  go_ret
  exact ⟨rfl, ((Fr.refl none_ w).alloc _).trans HF.out⟩
def IdxOut (w : World) (l : List V) (e : Ending) (w' : World) : Prop := ∃ i : Int, e = .returned (.int .i64 i) ∧ decide (0 ≤ i) = !mayAll l ∧ -1 ≤ i ∧ Fr none_ w w'
set_option maxRecDepth 100000 in
set_option maxHeartbeats 2000000 in
theorem index_notmay (D : Nat → Prop) (z : Prop) (l : List V) (A : Option Addr) (c : Nat) (w : World) (hb : l.length ≤ 2199023255552) (hs : RVs w D z l A) (hD : ∀ b, D b → b < w.heap.size) :
    Calls Try.prog 105 #[.slice A l.length c, .func (.func 100) #[] #[]] w (IdxOut w l) := by
  have HD := Lib.hid hD; clear hD
  have HS := Lib.hid hs; clear hs
  go_enter Try.func105, Try.ntmps105
  go_wp2
  go_loopg [8] (l.length) (fun k' i wr => AllRel w l k' i wr)
  case atStart => exact ⟨0, by omega, rfl, by simp, Fr.refl _ _⟩
  case round =>
    obtain ⟨j, hjk, rfl, hall, hfr⟩ := hrel
    have HA := Lib.hid hall; clear hall
    have HFR := Lib.hid hfr; clear hfr
    by_cases hlt : j < l.length
    · have hs' := HS.out.fr HFR.out (fun _ _ h => h)
      obtain ⟨b1, o1, A1, c1', he, hd1, e0, e1, e2, e3, e4, hv⟩ := hs'.elem hlt
      subst he
      have HV := Lib.hid hv; clear hv
      clear hs' hd1
      have hjb : (j : Int) < l.length := by omega
      have hj2 : (j : Int) ≤ 2199023255552 := by omega
      go_wp2_with fail
      refine (notmay_any D z l[j] A1 c1' _ HV.out (fun b hd => by have := HD.out b hd; have := HFR.out.size; omega)).mono ?_
      rintro e w1 ⟨rfl, hf⟩
      have HF := Lib.hid hf; clear hf
      cases hm : l[j].may with
      | true =>
        have HM := Lib.hid hm; clear hm
        rw [Bool.not_true]
        go_wp2
        go_roundg (gk - 1)
        case measure => omega
        case rel =>
          refine ⟨j + 1, by omega, by go_num, ?_, HFR.out.trans HF.out⟩
          rw [List.take_succ_eq_append_getElem hlt]
          intro x hx
          rcases List.mem_append.1 hx with hx | hx
          · exact HA.out x hx
          · rw [List.mem_singleton.1 hx]; exact HM.out
      | false =>
        have HM := Lib.hid hm; clear hm
        rw [Bool.not_false]
        go_wp2
        go_ret
        refine ⟨j, rfl, ?_, by omega, HFR.out.trans HF.out⟩
        have hf : mayAll l = false := by
          unfold mayAll
          rw [List.all_eq_false]
          exact ⟨l[j], List.getElem_mem _, by simp [HM.out]⟩
        rw [hf]
        simp
    · go_wp2
      go_ret
      refine ⟨-1, rfl, ?_, by omega, HFR.out⟩
      have hf : mayAll l = true := by
        unfold mayAll
        rw [List.all_eq_true]
        have := HA.out
        rwa [List.take_of_length_le (by omega)] at this
      rw [hf]
      rfl
set_option maxRecDepth 100000 in
set_option maxHeartbeats 1000000 in
theorem contains_notmay (D : Nat → Prop) (z : Prop) (l : List V) (A : Option Addr) (c : Nat) (w : World) (hb : l.length ≤ 2199023255552) (hs : RVs w D z l A) (hD : ∀ b, D b → b < w.heap.size) :
    Calls Try.prog 99 #[.slice A l.length c, .func (.func 100) #[] #[]] w (Bool_ w (!mayAll l)) := by
  have HD := Lib.hid hD; clear hD
  have HS := Lib.hid hs; clear hs
  go_enter Try.func99, Try.ntmps99
  go_wp2_with fail
  refine (index_notmay D z l A c w hb HS.out HD.out).mono ?_
  rintro e w1 ⟨i, rfl, hi, hi1, hf⟩
  have HF := Lib.hid hf; clear hf
  have HI := Lib.hid hi; clear hi
  go_wp2
  go_ret
  exact ⟨ret_bool HI.out, HF.out⟩
set_option maxRecDepth 100000 in
set_option maxHeartbeats 1000000 in
theorem all_any (D : Nat → Prop) (z : Prop) (l : List V) (A : Option Addr) (c : Nat) (w : World) (hb : l.length ≤ 2199023255552) (hs : RVs w D z l A) (hD : ∀ b, D b → b < w.heap.size) :
    Calls Try.prog 88 #[.slice A l.length c] w (Bool_ w (mayAll l)) := by
  have HD := Lib.hid hD; clear hD
  have HS := Lib.hid hs; clear hs
  go_enter Try.func88, Try.ntmps88
  go_wp2_with fail
  refine (contains_notmay D z l A c w hb HS.out HD.out).mono ?_
  rintro e w1 ⟨rfl, hf⟩
  have HF := Lib.hid hf; clear hf
  go_wp2
  go_ret
  exact ⟨rfl, HF.out⟩
/-! ### Of -/
/-- The list of some values, as one value. -/
abbrev listV (l : List V) : V := .mk 3 0 ⟨#[]⟩ l 0
theorem RV_list {w : World} {D : Nat → Prop} {z : Prop} {l : List V} {A : Option Addr} {c : Nat} (hb : l.length ≤ 2199023255552) (hc : l.length ≤ c) (hs : RVs w D z l A) : RV w D z (listV l) [.int .u8 3, .int .i64 0, .string ⟨#[]⟩, .slice A l.length c, .int .i64 0] := by
  unfold listV RV
  exact ⟨by unfold U8; omega, by unfold I64; omega, by unfold I64; omega, Nat.zero_le _, hb, A, c, rfl, hc, hs⟩
/-- What 'Of' comes to: the number alone is asked for by its callers here. -/
def ofErr (l : List V) : Int := if mayAll l = true then (if (listV l).may = true then 0 else 4) else 2
def OfOut (w : World) (l : List V) (e : Ending) (w' : World) : Prop := ∃ (v : V) (A : Option Addr) (c : Nat), e = .returned (.tuple #[v.agg A c, .int .i64 (ofErr l)]) ∧ Fr none_ w w'
theorem build_list (A : Option Addr) (n c : Nat) (W : World) : (Instr.build 37 #[(0, .int .u8 3), (3, .slice A n c)]).run Try.prog W = .ok (.agg #[.int .u8 3, .int .i64 0, .string ⟨#[]⟩, .slice A n c, .int .i64 0]) W := by kernel_rfl
set_option maxRecDepth 100000 in
set_option maxHeartbeats 2000000 in
theorem Of_any (D : Nat → Prop) (z : Prop) (l : List V) (A : Option Addr) (c : Nat) (w : World) (hb : l.length ≤ 2199023255552) (hc : l.length ≤ c) (hs : RVs w D z l A) (hD : ∀ b, D b → b < w.heap.size) :
    Calls Try.prog 67 #[.slice A l.length c] w (OfOut w l) := by
  have HD := Lib.hid hD; clear hD
  have HS := Lib.hid hs; clear hs
  have hbz := build_zero
  have hbl := build_list A l.length c
  go_enter Try.func67, Try.ntmps67
  go_wp2_with fail
  refine (all_any D z l A c _ hb (HS.out.fr ((Fr.refl none_ w).alloc _) (fun _ _ h => h)) (fun b hd => by have := HD.out b hd; simp; omega)).mono ?_
  rintro e w1 ⟨rfl, hf⟩
  have hb1 := (Blk.new w zero5 37).keep hf (fun h => h)
  have hfw := ((Fr.refl none_ w).alloc (.cells zero5.toArray 37)).trans hf
  have hsz := hfw.size
  have HB1 := Lib.hid hb1; clear hb1
  have HFW := Lib.hid hfw; clear hfw hf
  cases hm : mayAll l with
  | false =>
    have HM := Lib.hid hm; clear hm
    go_wp2_with (refine wpList_stop (.store 37 (.tmp 2) (.tmp 8)) rfl ?_)
    refine Stop.mk ?_
    refine wpList_store_blk (cs := zero5) (t := 37) rfl 37 (.tmp 2) (.tmp 8) rfl w.heap.size 0 zero5 ?e1 ?e2 HB1.out (by simp) size_Value rfl ?_
    case e1 => rfl
    case e2 => rfl
    go_wp2
    refine ret_blk2 (g := w.heap.size) (cs := zero5) (t := 37) rfl rfl (HB1.out.setCells 0 zero5 (by simp)) Try.underlying37 rfl size_Value rfl ?_
    refine ⟨V.zero, none, 0, ?_, HFW.out.setCells _ _ _ (fun h => by omega)⟩
    unfold ofErr
    rw [HM.out]
    rfl
  | true =>
    have HM := Lib.hid hm; clear hm
    go_wp2_with fail
    refine (may_any D z (listV l) A c _ ?_ ?_).mono ?_
    · exact RV_list hb hc (HS.out.fr (HFW.out.alloc _) (fun _ _ h => h))
    · intro b hd
      have := HD.out b hd
      simp
      omega
    rintro e w2 ⟨rfl, hf2⟩
    have hb3 := (Blk.new w1 [.int .u8 3, .int .i64 0, .string ⟨#[]⟩, .slice A l.length c, .int .i64 0] 37).keep hf2 (fun h => h)
    have x0 : w2.cell? ⟨w1.heap.size, 0, none⟩ = some (.int .u8 3) := hb3.cell 0
    have x1 : w2.cell? ⟨w1.heap.size, 1, none⟩ = some (.int .i64 0) := hb3.cell 1
    have x2 : w2.cell? ⟨w1.heap.size, 2, none⟩ = some (.string ⟨#[]⟩) := hb3.cell 2
    have x3 : w2.cell? ⟨w1.heap.size, 3, none⟩ = some (.slice A l.length c) := hb3.cell 3
    have x4 : w2.cell? ⟨w1.heap.size, 4, none⟩ = some (.int .i64 0) := hb3.cell 4
    have hb4 := (HB1.out.alloc (.cells #[.int .u8 3, .int .i64 0, .string ⟨#[]⟩, .slice A l.length c, .int .i64 0] 37)).keep hf2 (fun h => h)
    have hfw2 := (HFW.out.alloc (.cells #[.int .u8 3, .int .i64 0, .string ⟨#[]⟩, .slice A l.length c, .int .i64 0] 37)).trans hf2
    have HB4 := Lib.hid hb4; clear hb4
    have HFW2 := Lib.hid hfw2; clear hfw2 hf2
    clear hb3
    cases hm2 : (listV l).may with
    | false =>
      have HM2 := Lib.hid hm2; clear hm2
      go_wp2_with (refine wpList_stop (.store 37 (.tmp 2) (.tmp 14)) rfl ?_)
      refine Stop.mk ?_
      refine wpList_store_blk (cs := zero5) (t := 37) rfl 37 (.tmp 2) (.tmp 14) rfl w.heap.size 0 zero5 ?e3 ?e4 HB4.out (by simp) size_Value rfl ?_
      case e3 => rfl
      case e4 => rfl
      go_wp2
      refine ret_blk2 (g := w.heap.size) (cs := zero5) (t := 37) rfl rfl (HB4.out.setCells 0 zero5 (by simp)) Try.underlying37 rfl size_Value rfl ?_
      refine ⟨V.zero, none, 0, ?_, HFW2.out.setCells _ _ _ (fun h => by omega)⟩
      unfold ofErr
      rw [HM.out, HM2.out]
      rfl
    | true =>
      have HM2 := Lib.hid hm2; clear hm2
      go_wp2_with fail
      refine (own_any (listV l) (listV l) (List.mem_singleton_self _) D z A c _ ?_ ?_).mono ?_
      · exact RV_list hb hc (HS.out.fr HFW2.out (fun _ _ h => h))
      · intro b hd
        have := HD.out b hd
        have := HFW2.out.size
        omega
      rintro e w3 ⟨A3, c3, rfl, hv3, hf3⟩
      have hb5 := HB4.out.keep hf3 (fun h => h)
      have HB5 := Lib.hid hb5; clear hb5 hv3
      have HF3 := Lib.hid hf3; clear hf3
      go_wp2_with (refine wpList_stop (.store 37 (.tmp 2) (.tmp 16)) rfl ?_)
      refine Stop.mk ?_
      refine wpList_store_blk (cs := zero5) (t := 37) rfl 37 (.tmp 2) (.tmp 16) rfl w.heap.size 0 ((listV l).cells A3 c3) ?e5 ?e6 HB5.out (by simp) size_Value rfl ?_
      case e5 => rfl
      case e6 => rfl
      go_wp2
      refine ret_blk2 (g := w.heap.size) (cs := (listV l).cells A3 c3) (t := 37) rfl rfl (HB5.out.setCells 0 ((listV l).cells A3 c3) (by simp)) Try.underlying37 rfl size_Value rfl ?_
      refine ⟨listV l, A3, c3, ?_, (HFW2.out.trans HF3.out).setCells _ _ _ (fun h => by omega)⟩
      unfold ofErr
      rw [HM.out, HM2.out]
      rfl
end Go.Proofs.Ytpgjbbefgacjkaa
