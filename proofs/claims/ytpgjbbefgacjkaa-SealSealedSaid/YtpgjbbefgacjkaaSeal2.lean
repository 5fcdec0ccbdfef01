/- 'Seal' of package seal. -/
import Derived.Test.YtpgjbbefgacjkaaSeal
namespace Go.Proofs.Ytpgjbbefgacjkaa
open Go.RowKit
set_option linter.unusedSimpArgs false
set_option linter.unusedVariables false
set_option linter.unusedSectionVars false
section
variable {w : World} {p : Nat} {W : AW} {M D : Nat → Prop} {pa : Option Addr} {pc bc bt bf bm ck fk : Nat} {L : List (Int × Nat × Nat)} {FL : List ((Int × Int) × Int × Nat)}
set_option maxRecDepth 100000 in
set_option maxHeartbeats 4000000 in
theorem seal_yes (h : RepW w p W M D pa pc bc bt bf bm ck fk L FL) (r : Int) (x : X) (v : V) (va : Option Addr) (vc : Nat) (Dv : Nat → Prop) (z : Prop) (hI : I64 r) (hx : W.at_ r = some x) (hk5 : x.kind = 5) (hside : sideB W x.home = true) (hmay : v.may = true) (hrefs : allThings W v.refs = true)
    (hv : RV w Dv z v (v.cells va vc)) (hD : ∀ b, Dv b → b < w.heap.size) (hm : W.made.getD x.home.toNat 0 < 512) :
    Calls Try.prog 11 #[.pointer (some ⟨p, 0, none⟩), .int .i64 r, v.agg va vc] w (GoOut w p (W.lay (xOf 7 x.home r v)) M D pa pc bc bt bf bm fk FL (.tuple #[.int .i64 (W.last + 1), .int .i64 0])) := by
  have hbd : ∀ (W : World), (Instr.build 69 #[(0, .int .u8 7), (1, .int .i64 x.home), (6, .int .i64 r), (2, .agg #[.int .u8 v.k, .int .i64 v.n, .string v.s, .slice va v.l.length vc, .int .i64 v.r])]).run Try.prog W = .ok (.agg #[.int .u8 7, .int .i64 x.home, .int .u8 v.k, .int .i64 v.n, .string v.s, .slice va v.l.length vc, .int .i64 v.r, .slice none 0 0, .int .i64 0, .int .i64 0, .int .i64 r, .int .i64 0, .int .u8 0, .bool false, .slice none 0 0, .slice none 0 0]) W := fun W => by kernel_rfl
  have hko : kindOf W r = 5 := by unfold kindOf; rw [hx]; exact hk5
  have hho : homeOf W r = (x.home, true) := by unfold homeOf; rw [hx]; simp [hk5]
  have his : (W.at_ r).isSome = true := by rw [hx]; rfl
  have hre : refsErr W v = 0 := by unfold refsErr; rw [if_pos hrefs]
  have hth : thereB W r 5 x.home = true := by unfold thereB; rw [hx]; simp [hk5]
  have H := Lib.hid h; clear h
  have HV := Lib.hid hv; clear hv
  have HD := Lib.hid hD; clear hD
  have HMAY := Lib.hid hmay; clear hmay
  have HREFS := Lib.hid hrefs; clear hrefs
  have HKO := Lib.hid hko; clear hko
  have HHO := Lib.hid hho; clear hho
  have HIS := Lib.hid his; clear his
  have HRE := Lib.hid hre; clear hre
  have HTH := Lib.hid hth; clear hth
  have HSIDE := Lib.hid hside; clear hside
  have HM := Lib.hid hm; clear hm
  have HI := Lib.hid hI; clear hI
  clear hx hk5
  go_enter Try.func11, Try.ntmps11
  go_upto_region 1 with (fail)
  refine code_gen ?_
  intro W1 hW
  have hbx1 : Blk W1 w.heap.size (v.cells va vc) 37 := by rw [hW]; exact Blk.new w _ _
  have hfw1 : Fr none_ w W1 := by rw [hW]; exact (Fr.refl _ _).alloc _
  clear hW
  have x0 : W1.cell? ⟨w.heap.size, 0, none⟩ = some (.int .u8 v.k) := hbx1.cell 0
  have x1 : W1.cell? ⟨w.heap.size, 1, none⟩ = some (.int .i64 v.n) := hbx1.cell 1
  have x2 : W1.cell? ⟨w.heap.size, 2, none⟩ = some (.string v.s) := hbx1.cell 2
  have x3 : W1.cell? ⟨w.heap.size, 3, none⟩ = some (.slice va v.l.length vc) := hbx1.cell 3
  have x4 : W1.cell? ⟨w.heap.size, 4, none⟩ = some (.int .i64 v.r) := hbx1.cell 4
  have HBX1 := Lib.hid hbx1; clear hbx1
  have HFW1 := Lib.hid hfw1; clear hfw1
  have hd : ∀ w', Fr none_ w w' → ∀ b, Dv b → b < w'.heap.size := fun w' hf b hb => Nat.lt_of_lt_of_le (HD.out b hb) hf.size
  have HDD := Lib.hid hd; clear hd
  go_wp2_with fail
  refine (sthere_any (H.out.keep HFW1.out (fun _ _ h => h) (fun _ _ h => h))).mono ?_
  rintro e W1 ⟨rfl, rfl⟩
  go_wp2_with fail
  refine (may_any Dv z v va vc _ (HV.out.fr HFW1.out (fun _ _ h => h)) (HDD.out _ HFW1.out)).mono ?_
  rintro e W2 ⟨rfl, hf2⟩
  rw [HMAY.out]
  have hbx2 := HBX1.out.keep hf2 (fun h => h)
  have hfw2 := HFW1.out.trans hf2
  clear x0 x1 x2 x3 x4
  have x0 : W2.cell? ⟨w.heap.size, 0, none⟩ = some (.int .u8 v.k) := hbx2.cell 0
  have x1 : W2.cell? ⟨w.heap.size, 1, none⟩ = some (.int .i64 v.n) := hbx2.cell 1
  have x2 : W2.cell? ⟨w.heap.size, 2, none⟩ = some (.string v.s) := hbx2.cell 2
  have x3 : W2.cell? ⟨w.heap.size, 3, none⟩ = some (.slice va v.l.length vc) := hbx2.cell 3
  have x4 : W2.cell? ⟨w.heap.size, 4, none⟩ = some (.int .i64 v.r) := hbx2.cell 4
  have HBX2 := Lib.hid hbx2; clear hbx2
  have HFW2 := Lib.hid hfw2; clear hfw2
  clear hf2
  go_wp2_with fail
  refine (is_any (H.out.keep HFW2.out (fun _ _ h => h) (fun _ _ h => h)) r).mono ?_
  rintro e W2 ⟨rfl, rfl⟩
  rw [HIS.out]
  go_wp2_with fail
  refine (sealrefs_any (H.out.keep HFW2.out (fun _ _ h => h) (fun _ _ h => h)) v va vc Dv z (HV.out.fr HFW2.out (fun _ _ h => h)) (HDD.out _ HFW2.out)).mono ?_
  rintro e W3 ⟨rfl, hf3⟩
  rw [HRE.out]
  have hbx3 := HBX2.out.keep hf3 (fun h => h)
  have hfw3 := HFW2.out.trans hf3
  clear x0 x1 x2 x3 x4
  have x0 : W3.cell? ⟨w.heap.size, 0, none⟩ = some (.int .u8 v.k) := hbx3.cell 0
  have x1 : W3.cell? ⟨w.heap.size, 1, none⟩ = some (.int .i64 v.n) := hbx3.cell 1
  have x2 : W3.cell? ⟨w.heap.size, 2, none⟩ = some (.string v.s) := hbx3.cell 2
  have x3 : W3.cell? ⟨w.heap.size, 3, none⟩ = some (.slice va v.l.length vc) := hbx3.cell 3
  have x4 : W3.cell? ⟨w.heap.size, 4, none⟩ = some (.int .i64 v.r) := hbx3.cell 4
  have HBX3 := Lib.hid hbx3; clear hbx3
  have HFW3 := Lib.hid hfw3; clear hfw3
  clear hf3
  go_wp2_with fail
  refine (kind_any (H.out.keep HFW3.out (fun _ _ h => h) (fun _ _ h => h)) r).mono ?_
  rintro e W3 ⟨rfl, rfl⟩
  rw [HKO.out]
  go_wp2_with fail
  refine (home_any (H.out.keep HFW3.out (fun _ _ h => h) (fun _ _ h => h)) r).mono ?_
  rintro e W3 ⟨rfl, rfl⟩
  rw [HHO.out]
  go_wp2_with fail
  refine (make_box (H.out.keep HFW3.out (fun _ _ h => h) (fun _ _ h => h)) x.home r v va vc Dv z HSIDE.out HI.out HMAY.out HREFS.out HTH.out (HV.out.fr HFW3.out (fun _ _ h => h)) (HDD.out _ HFW3.out) HM.out).mono ?_
  rintro e W4 ⟨M1, D1, ck1, L1, rfl, hr1, hM1, hD1, hf1⟩
  have hout : GoOut w p (W.lay (xOf 7 x.home r v)) M D pa pc bc bt bf bm fk FL (.tuple #[.int .i64 (W.last + 1), .int .i64 0]) (.returned (.tuple #[.int .i64 (W.last + 1), .int .i64 0])) W4 :=
    go_then H.out _ (fun _ h => .inl h) (fun _ h => .inl h) (HFW3.out.mono (fun _ _ h => h.elim)) hr1 hM1 hD1 hf1
  have HOUT := Lib.hid hout; clear hout
  clear hr1 hM1 hD1 hf1
  clear x0 x1 x2 x3 x4
  go_wp2
  go_ret2
  exact HOUT.out
set_option maxRecDepth 100000 in
set_option maxHeartbeats 4000000 in
theorem seal_full (h : RepW w p W M D pa pc bc bt bf bm ck fk L FL) (r : Int) (x : X) (v : V) (va : Option Addr) (vc : Nat) (Dv : Nat → Prop) (z : Prop) (hI : I64 r) (hx : W.at_ r = some x) (hk5 : x.kind = 5) (hside : sideB W x.home = true) (hmay : v.may = true) (hrefs : allThings W v.refs = true)
    (hv : RV w Dv z v (v.cells va vc)) (hD : ∀ b, Dv b → b < w.heap.size) (hm : W.made.getD x.home.toNat 0 = 512) :
    Calls Try.prog 11 #[.pointer (some ⟨p, 0, none⟩), .int .i64 r, v.agg va vc] w (MakeNo w 8) := by
  have hbd : ∀ (W : World), (Instr.build 69 #[(0, .int .u8 7), (1, .int .i64 x.home), (6, .int .i64 r), (2, .agg #[.int .u8 v.k, .int .i64 v.n, .string v.s, .slice va v.l.length vc, .int .i64 v.r])]).run Try.prog W = .ok (.agg #[.int .u8 7, .int .i64 x.home, .int .u8 v.k, .int .i64 v.n, .string v.s, .slice va v.l.length vc, .int .i64 v.r, .slice none 0 0, .int .i64 0, .int .i64 0, .int .i64 r, .int .i64 0, .int .u8 0, .bool false, .slice none 0 0, .slice none 0 0]) W := fun W => by kernel_rfl
  have hko : kindOf W r = 5 := by unfold kindOf; rw [hx]; exact hk5
  have hho : homeOf W r = (x.home, true) := by unfold homeOf; rw [hx]; simp [hk5]
  have his : (W.at_ r).isSome = true := by rw [hx]; rfl
  have hre : refsErr W v = 0 := by unfold refsErr; rw [if_pos hrefs]
  have hth : thereB W r 5 x.home = true := by unfold thereB; rw [hx]; simp [hk5]
  have H := Lib.hid h; clear h
  have HV := Lib.hid hv; clear hv
  have HD := Lib.hid hD; clear hD
  have HMAY := Lib.hid hmay; clear hmay
  have HREFS := Lib.hid hrefs; clear hrefs
  have HKO := Lib.hid hko; clear hko
  have HHO := Lib.hid hho; clear hho
  have HIS := Lib.hid his; clear his
  have HRE := Lib.hid hre; clear hre
  have HTH := Lib.hid hth; clear hth
  have HSIDE := Lib.hid hside; clear hside
  have HM := Lib.hid hm; clear hm
  have HI := Lib.hid hI; clear hI
  clear hx hk5
  go_enter Try.func11, Try.ntmps11
  go_upto_region 1 with (fail)
  refine code_gen ?_
  intro W1 hW
  have hbx1 : Blk W1 w.heap.size (v.cells va vc) 37 := by rw [hW]; exact Blk.new w _ _
  have hfw1 : Fr none_ w W1 := by rw [hW]; exact (Fr.refl _ _).alloc _
  clear hW
  have x0 : W1.cell? ⟨w.heap.size, 0, none⟩ = some (.int .u8 v.k) := hbx1.cell 0
  have x1 : W1.cell? ⟨w.heap.size, 1, none⟩ = some (.int .i64 v.n) := hbx1.cell 1
  have x2 : W1.cell? ⟨w.heap.size, 2, none⟩ = some (.string v.s) := hbx1.cell 2
  have x3 : W1.cell? ⟨w.heap.size, 3, none⟩ = some (.slice va v.l.length vc) := hbx1.cell 3
  have x4 : W1.cell? ⟨w.heap.size, 4, none⟩ = some (.int .i64 v.r) := hbx1.cell 4
  have HBX1 := Lib.hid hbx1; clear hbx1
  have HFW1 := Lib.hid hfw1; clear hfw1
  have hd : ∀ w', Fr none_ w w' → ∀ b, Dv b → b < w'.heap.size := fun w' hf b hb => Nat.lt_of_lt_of_le (HD.out b hb) hf.size
  have HDD := Lib.hid hd; clear hd
  go_wp2_with fail
  refine (sthere_any (H.out.keep HFW1.out (fun _ _ h => h) (fun _ _ h => h))).mono ?_
  rintro e W1 ⟨rfl, rfl⟩
  go_wp2_with fail
  refine (may_any Dv z v va vc _ (HV.out.fr HFW1.out (fun _ _ h => h)) (HDD.out _ HFW1.out)).mono ?_
  rintro e W2 ⟨rfl, hf2⟩
  rw [HMAY.out]
  have hbx2 := HBX1.out.keep hf2 (fun h => h)
  have hfw2 := HFW1.out.trans hf2
  clear x0 x1 x2 x3 x4
  have x0 : W2.cell? ⟨w.heap.size, 0, none⟩ = some (.int .u8 v.k) := hbx2.cell 0
  have x1 : W2.cell? ⟨w.heap.size, 1, none⟩ = some (.int .i64 v.n) := hbx2.cell 1
  have x2 : W2.cell? ⟨w.heap.size, 2, none⟩ = some (.string v.s) := hbx2.cell 2
  have x3 : W2.cell? ⟨w.heap.size, 3, none⟩ = some (.slice va v.l.length vc) := hbx2.cell 3
  have x4 : W2.cell? ⟨w.heap.size, 4, none⟩ = some (.int .i64 v.r) := hbx2.cell 4
  have HBX2 := Lib.hid hbx2; clear hbx2
  have HFW2 := Lib.hid hfw2; clear hfw2
  clear hf2
  go_wp2_with fail
  refine (is_any (H.out.keep HFW2.out (fun _ _ h => h) (fun _ _ h => h)) r).mono ?_
  rintro e W2 ⟨rfl, rfl⟩
  rw [HIS.out]
  go_wp2_with fail
  refine (sealrefs_any (H.out.keep HFW2.out (fun _ _ h => h) (fun _ _ h => h)) v va vc Dv z (HV.out.fr HFW2.out (fun _ _ h => h)) (HDD.out _ HFW2.out)).mono ?_
  rintro e W3 ⟨rfl, hf3⟩
  rw [HRE.out]
  have hbx3 := HBX2.out.keep hf3 (fun h => h)
  have hfw3 := HFW2.out.trans hf3
  clear x0 x1 x2 x3 x4
  have x0 : W3.cell? ⟨w.heap.size, 0, none⟩ = some (.int .u8 v.k) := hbx3.cell 0
  have x1 : W3.cell? ⟨w.heap.size, 1, none⟩ = some (.int .i64 v.n) := hbx3.cell 1
  have x2 : W3.cell? ⟨w.heap.size, 2, none⟩ = some (.string v.s) := hbx3.cell 2
  have x3 : W3.cell? ⟨w.heap.size, 3, none⟩ = some (.slice va v.l.length vc) := hbx3.cell 3
  have x4 : W3.cell? ⟨w.heap.size, 4, none⟩ = some (.int .i64 v.r) := hbx3.cell 4
  have HBX3 := Lib.hid hbx3; clear hbx3
  have HFW3 := Lib.hid hfw3; clear hfw3
  clear hf3
  go_wp2_with fail
  refine (kind_any (H.out.keep HFW3.out (fun _ _ h => h) (fun _ _ h => h)) r).mono ?_
  rintro e W3 ⟨rfl, rfl⟩
  rw [HKO.out]
  go_wp2_with fail
  refine (home_any (H.out.keep HFW3.out (fun _ _ h => h) (fun _ _ h => h)) r).mono ?_
  rintro e W3 ⟨rfl, rfl⟩
  rw [HHO.out]
  go_wp2_with fail
  refine (make_box_full (H.out.keep HFW3.out (fun _ _ h => h) (fun _ _ h => h)) x.home r v va vc Dv z HSIDE.out HI.out HMAY.out HREFS.out HTH.out (HV.out.fr HFW3.out (fun _ _ h => h)) (HDD.out _ HFW3.out) HM.out).mono ?_
  rintro e W4 ⟨rfl, hf4⟩
  have hout : MakeNo w 8 (.returned (.tuple #[.int .i64 0, .int .i64 8])) W4 := ⟨rfl, HFW3.out.trans hf4⟩
  have HOUT := Lib.hid hout; clear hout
  clear hf4
  clear x0 x1 x2 x3 x4
  go_wp2
  go_ret2
  exact HOUT.out
end
end Go.Proofs.Ytpgjbbefgacjkaa
