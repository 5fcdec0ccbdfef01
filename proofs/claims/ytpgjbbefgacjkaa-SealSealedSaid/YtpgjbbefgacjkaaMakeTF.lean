/- 'Make' of package world, one way through its questions. -/
import Derived.Test.YtpgjbbefgacjkaaMake0
namespace Go.Proofs.Ytpgjbbefgacjkaa
open Go.RowKit
set_option linter.unusedSimpArgs false
set_option linter.unusedVariables false
set_option linter.unusedSectionVars false
section
variable {w : World} {p : Nat} {W : AW} {M D : Nat → Prop} {pa : Option Addr} {pc bc bt bf bm ck fk : Nat} {L : List (Int × Nat × Nat)} {FL : List ((Int × Int) × Int × Nat)}
set_option maxRecDepth 100000 in
set_option maxHeartbeats 4000000 in
theorem make_TF (h : RepW w p W M D pa pc bc bt bf bm ck fk L FL) (x : X) (u : Under) (Dx : Nat → Prop) (z : Prop) (hp : x.plain) (hmay : x.val.may = true) (hx : RX w Dx z x u) (hdx : ∀ i, Dx i → i < w.heap.size)
    (hk14 : x.kind ≠ 14) (hk15 : x.kind ≠ 15) (hk13 : x.kind ≠ 13) (hao : asksOfB x.kind = true) (hof : (W.at_ x.of_).isSome = true) (hab : asksByB x.kind = false) 
    (hform : ∀ w', Fr none_ w w' → Calls Try.prog 46 #[.pointer (some ⟨p, 0, none⟩), x.agg u] w' (Bool_ w' true))
    (hnames : ∀ w', Fr none_ w w' → Calls Try.prog 47 #[.pointer (some ⟨p, 0, none⟩), x.agg u] w' (Bool_ w' true))
    (hfits : ∀ w', Fr none_ w w' → Calls Try.prog 50 #[.pointer (some ⟨p, 0, none⟩), .int .i64 0, x.agg u] w' (Bool_ w' true))
    (hside : sideB W x.home = true) (hmade : W.made.getD x.home.toNat 0 < 512) :
    Calls Try.prog 28 #[.pointer (some ⟨p, 0, none⟩), x.agg u] w (MakeOut w p W M D pa pc bc bt bf bm fk FL x) := by
  obtain ⟨hh0, hh1⟩ := (sideB_iff h x.home).1 hside
  obtain ⟨n, hn⟩ := Int.eq_ofNat_of_zero_le hh0
  have hn1 : n < W.made.length := by omega
  have hn2 : (n : Int) < W.made.length := by omega
  have hgd : W.made.getD x.home.toNat 0 = W.made[n] := by rw [hn]; simp [List.getD_eq_getElem?_getD, List.getElem?_eq_getElem hn1]
  have c2 := h.c2
  have d14 : (x.kind == 14) = false := by simpa using hk14
  have d15 : (x.kind == 15) = false := by simpa using hk15
  have d13 : (x.kind == 13) = false := by simpa using hk13
  have H := Lib.hid h; clear h
  have HX := Lib.hid hx; clear hx
  have HDX := Lib.hid hdx; clear hdx
  have HP := Lib.hid hp; clear hp
  have HMAY := Lib.hid hmay; clear hmay
  have HFORM := Lib.hid hform; clear hform
  have HNAMES := Lib.hid hnames; clear hnames
  have HFITS := Lib.hid hfits; clear hfits
  have HK14 := Lib.hid hk14; clear hk14
  have HAO := Lib.hid hao; clear hao
  have HAB := Lib.hid hab; clear hab
  have HSIDE := Lib.hid hside; clear hside
  have HMADE := Lib.hid hmade; clear hmade
  have HN := Lib.hid hn; clear hn
  have HGD := Lib.hid hgd; clear hgd
  clear hk15 hk13
  have HOF := Lib.hid hof; clear hof
  go_enter Try.func28, Try.ntmps28
  go_upto_region 1 with (fail)
  refine code_gen ?_
  intro W1 hW
  have hbx1 : Blk W1 w.heap.size (x.cells u) 69 := by rw [hW]; exact Blk.new w _ _
  have hfw1 : Fr none_ w W1 := by rw [hW]; exact (Fr.refl _ _).alloc _
  clear hW
  have c2' : W1.cell? ⟨p, 2, none⟩ = some (.map (some bt)) := (H.out.keep hfw1 (fun _ _ h => h) (fun _ _ h => h)).c2
  have x0 : W1.cell? ⟨w.heap.size, 0, none⟩ = some (.int .u8 x.kind) := hbx1.cell 0
  have x1 : W1.cell? ⟨w.heap.size, 1, none⟩ = some (.int .i64 x.home) := hbx1.cell 1
  have x2 : W1.cell? ⟨w.heap.size, 2, none⟩ = some (.int .u8 x.val.k) := hbx1.cell 2
  have x3 : W1.cell? ⟨w.heap.size, 3, none⟩ = some (.int .i64 x.val.n) := hbx1.cell 3
  have x4 : W1.cell? ⟨w.heap.size, 4, none⟩ = some (.string x.val.s) := hbx1.cell 4
  have x5 : W1.cell? ⟨w.heap.size, 5, none⟩ = some (.slice u.va x.val.l.length u.vc) := hbx1.cell 5
  have x6 : W1.cell? ⟨w.heap.size, 6, none⟩ = some (.int .i64 x.val.r) := hbx1.cell 6
  have x7 : W1.cell? ⟨w.heap.size, 7, none⟩ = some (.slice u.la x.vals.length u.lc) := hbx1.cell 7
  have x8 : W1.cell? ⟨w.heap.size, 8, none⟩ = some (.int .i64 x.n) := hbx1.cell 8
  have x9 : W1.cell? ⟨w.heap.size, 9, none⟩ = some (.int .i64 x.lost) := hbx1.cell 9
  have x10 : W1.cell? ⟨w.heap.size, 10, none⟩ = some (.int .i64 x.of_) := hbx1.cell 10
  have x11 : W1.cell? ⟨w.heap.size, 11, none⟩ = some (.int .i64 x.by_) := hbx1.cell 11
  have x12 : W1.cell? ⟨w.heap.size, 12, none⟩ = some (.int .u8 x.set) := hbx1.cell 12
  have x13 : W1.cell? ⟨w.heap.size, 13, none⟩ = some (.bool x.full) := hbx1.cell 13
  have x14 : W1.cell? ⟨w.heap.size, 14, none⟩ = some (.slice u.ca x.code.length u.cc) := hbx1.cell 14
  have x15 : W1.cell? ⟨w.heap.size, 15, none⟩ = some (.slice u.na x.names.length u.nc) := hbx1.cell 15
  have HBX1 := Lib.hid hbx1; clear hbx1
  have HFW1 := Lib.hid hfw1; clear hfw1
  clear c2
  go_wp2_with fail
  refine (none_any p bt W1 c2').mono ?_
  rintro e W1' ⟨rfl, rfl⟩
  go_wp2_with fail
  refine (HFORM.out _ HFW1.out).mono ?_
  rintro e W2 ⟨rfl, hf2⟩
  have hbx2 := HBX1.out.keep hf2 (fun h => h)
  have hfw2 := HFW1.out.trans hf2
  clear x0 x1 x2 x3 x4 x5 x6 x7 x8 x9 x10 x11 x12 x13 x14 x15
  have x0 : W2.cell? ⟨w.heap.size, 0, none⟩ = some (.int .u8 x.kind) := hbx2.cell 0
  have x1 : W2.cell? ⟨w.heap.size, 1, none⟩ = some (.int .i64 x.home) := hbx2.cell 1
  have x2 : W2.cell? ⟨w.heap.size, 2, none⟩ = some (.int .u8 x.val.k) := hbx2.cell 2
  have x3 : W2.cell? ⟨w.heap.size, 3, none⟩ = some (.int .i64 x.val.n) := hbx2.cell 3
  have x4 : W2.cell? ⟨w.heap.size, 4, none⟩ = some (.string x.val.s) := hbx2.cell 4
  have x5 : W2.cell? ⟨w.heap.size, 5, none⟩ = some (.slice u.va x.val.l.length u.vc) := hbx2.cell 5
  have x6 : W2.cell? ⟨w.heap.size, 6, none⟩ = some (.int .i64 x.val.r) := hbx2.cell 6
  have x7 : W2.cell? ⟨w.heap.size, 7, none⟩ = some (.slice u.la x.vals.length u.lc) := hbx2.cell 7
  have x8 : W2.cell? ⟨w.heap.size, 8, none⟩ = some (.int .i64 x.n) := hbx2.cell 8
  have x9 : W2.cell? ⟨w.heap.size, 9, none⟩ = some (.int .i64 x.lost) := hbx2.cell 9
  have x10 : W2.cell? ⟨w.heap.size, 10, none⟩ = some (.int .i64 x.of_) := hbx2.cell 10
  have x11 : W2.cell? ⟨w.heap.size, 11, none⟩ = some (.int .i64 x.by_) := hbx2.cell 11
  have x12 : W2.cell? ⟨w.heap.size, 12, none⟩ = some (.int .u8 x.set) := hbx2.cell 12
  have x13 : W2.cell? ⟨w.heap.size, 13, none⟩ = some (.bool x.full) := hbx2.cell 13
  have x14 : W2.cell? ⟨w.heap.size, 14, none⟩ = some (.slice u.ca x.code.length u.cc) := hbx2.cell 14
  have x15 : W2.cell? ⟨w.heap.size, 15, none⟩ = some (.slice u.na x.names.length u.nc) := hbx2.cell 15
  have HBX2 := Lib.hid hbx2; clear hbx2
  have HFW2 := Lib.hid hfw2; clear hfw2
  clear hf2 c2'
  go_wp2_with fail
  refine (HNAMES.out _ HFW2.out).mono ?_
  rintro e W3 ⟨rfl, hf3⟩
  have hbx3 := HBX2.out.keep hf3 (fun h => h)
  have hfw3 := HFW2.out.trans hf3
  clear x0 x1 x2 x3 x4 x5 x6 x7 x8 x9 x10 x11 x12 x13 x14 x15
  have x0 : W3.cell? ⟨w.heap.size, 0, none⟩ = some (.int .u8 x.kind) := hbx3.cell 0
  have x1 : W3.cell? ⟨w.heap.size, 1, none⟩ = some (.int .i64 x.home) := hbx3.cell 1
  have x2 : W3.cell? ⟨w.heap.size, 2, none⟩ = some (.int .u8 x.val.k) := hbx3.cell 2
  have x3 : W3.cell? ⟨w.heap.size, 3, none⟩ = some (.int .i64 x.val.n) := hbx3.cell 3
  have x4 : W3.cell? ⟨w.heap.size, 4, none⟩ = some (.string x.val.s) := hbx3.cell 4
  have x5 : W3.cell? ⟨w.heap.size, 5, none⟩ = some (.slice u.va x.val.l.length u.vc) := hbx3.cell 5
  have x6 : W3.cell? ⟨w.heap.size, 6, none⟩ = some (.int .i64 x.val.r) := hbx3.cell 6
  have x7 : W3.cell? ⟨w.heap.size, 7, none⟩ = some (.slice u.la x.vals.length u.lc) := hbx3.cell 7
  have x8 : W3.cell? ⟨w.heap.size, 8, none⟩ = some (.int .i64 x.n) := hbx3.cell 8
  have x9 : W3.cell? ⟨w.heap.size, 9, none⟩ = some (.int .i64 x.lost) := hbx3.cell 9
  have x10 : W3.cell? ⟨w.heap.size, 10, none⟩ = some (.int .i64 x.of_) := hbx3.cell 10
  have x11 : W3.cell? ⟨w.heap.size, 11, none⟩ = some (.int .i64 x.by_) := hbx3.cell 11
  have x12 : W3.cell? ⟨w.heap.size, 12, none⟩ = some (.int .u8 x.set) := hbx3.cell 12
  have x13 : W3.cell? ⟨w.heap.size, 13, none⟩ = some (.bool x.full) := hbx3.cell 13
  have x14 : W3.cell? ⟨w.heap.size, 14, none⟩ = some (.slice u.ca x.code.length u.cc) := hbx3.cell 14
  have x15 : W3.cell? ⟨w.heap.size, 15, none⟩ = some (.slice u.na x.names.length u.nc) := hbx3.cell 15
  have HBX3 := Lib.hid hbx3; clear hbx3
  have HFW3 := Lib.hid hfw3; clear hfw3
  clear hf3
  go_wp2_with fail
  refine (asksOf_any x.kind W3).mono ?_
  rintro e W3' ⟨rfl, rfl⟩
  rw [HAO.out]
  go_wp2_with fail
  refine (is_any (H.out.keep HFW3.out (fun _ _ h => h) (fun _ _ h => h)) x.of_).mono ?_
  rintro e W3'' ⟨rfl, rfl⟩
  rw [HOF.out]
  go_wp2_with fail
  refine (asksBy_any x.kind _).mono ?_
  rintro e W4 ⟨rfl, rfl⟩
  rw [HAB.out]
  go_wp2_with fail
  refine (HFITS.out _ HFW3.out).mono ?_
  rintro e W6 ⟨rfl, hf6⟩
  have hbx6 := HBX3.out.keep hf6 (fun h => h)
  have hfw6 := HFW3.out.trans hf6
  clear x0 x1 x2 x3 x4 x5 x6 x7 x8 x9 x10 x11 x12 x13 x14 x15
  have x0 : W6.cell? ⟨w.heap.size, 0, none⟩ = some (.int .u8 x.kind) := hbx6.cell 0
  have x2 : W6.cell? ⟨w.heap.size, 2, none⟩ = some (.int .u8 x.val.k) := hbx6.cell 2
  have x3 : W6.cell? ⟨w.heap.size, 3, none⟩ = some (.int .i64 x.val.n) := hbx6.cell 3
  have x4 : W6.cell? ⟨w.heap.size, 4, none⟩ = some (.string x.val.s) := hbx6.cell 4
  have x5 : W6.cell? ⟨w.heap.size, 5, none⟩ = some (.slice u.va x.val.l.length u.vc) := hbx6.cell 5
  have x6 : W6.cell? ⟨w.heap.size, 6, none⟩ = some (.int .i64 x.val.r) := hbx6.cell 6
  have x7 : W6.cell? ⟨w.heap.size, 7, none⟩ = some (.slice u.la x.vals.length u.lc) := hbx6.cell 7
  have x8 : W6.cell? ⟨w.heap.size, 8, none⟩ = some (.int .i64 x.n) := hbx6.cell 8
  have x9 : W6.cell? ⟨w.heap.size, 9, none⟩ = some (.int .i64 x.lost) := hbx6.cell 9
  have x10 : W6.cell? ⟨w.heap.size, 10, none⟩ = some (.int .i64 x.of_) := hbx6.cell 10
  have x11 : W6.cell? ⟨w.heap.size, 11, none⟩ = some (.int .i64 x.by_) := hbx6.cell 11
  have x12 : W6.cell? ⟨w.heap.size, 12, none⟩ = some (.int .u8 x.set) := hbx6.cell 12
  have x13 : W6.cell? ⟨w.heap.size, 13, none⟩ = some (.bool x.full) := hbx6.cell 13
  have x14 : W6.cell? ⟨w.heap.size, 14, none⟩ = some (.slice u.ca x.code.length u.cc) := hbx6.cell 14
  have x15 : W6.cell? ⟨w.heap.size, 15, none⟩ = some (.slice u.na x.names.length u.nc) := hbx6.cell 15
  have x1 : W6.cell? ⟨w.heap.size, 1, none⟩ = some (.int .i64 (n : Int)) := by rw [← HN.out]; exact hbx6.cell 1
  have HBX6 := Lib.hid hbx6; clear hbx6
  have HFW6 := Lib.hid hfw6; clear hfw6
  have h6 := H.out.keep HFW6.out (fun _ _ h => h) (fun _ _ h => h)
  have c5 := h6.c5
  have m1 := h6.madeAt hn1
  have H6 := Lib.hid h6; clear h6
  clear hf6
  have hm : W.made[n] < 512 := by rw [← HGD.out]; exact HMADE.out
  have dm : decide (W.made[n] ≥ 512) = false := by simp; omega
  go_wp2
  go_quiet (fail)
  have hfw7 := HFW6.out.drewN nq
  have hbx7 := HBX6.out.keep (S := none_) ((Fr.refl none_ W6).drewN nq) (fun h => h)
  have x1p : (W6.drewN nq).cell? ⟨w.heap.size, 1, none⟩ = some (.int .i64 x.home) := hbx7.cell 1
  have HFW7 := Lib.hid hfw7; clear hfw7
  have HBX7 := Lib.hid hbx7; clear hbx7
  generalize hW7 : W6.drewN nq = W7 at *
  clear c5 m1 x0 x1 x1p x2 x3 x4 x5 x6 x7 x8 x9 x10 x11 x12 x13 x14 x15
  have x0 : W7.cell? ⟨w.heap.size, 0, none⟩ = some (.int .u8 x.kind) := HBX7.out.cell 0
  have x1 : W7.cell? ⟨w.heap.size, 1, none⟩ = some (.int .i64 x.home) := HBX7.out.cell 1
  have x2 : W7.cell? ⟨w.heap.size, 2, none⟩ = some (.int .u8 x.val.k) := HBX7.out.cell 2
  have x3 : W7.cell? ⟨w.heap.size, 3, none⟩ = some (.int .i64 x.val.n) := HBX7.out.cell 3
  have x4 : W7.cell? ⟨w.heap.size, 4, none⟩ = some (.string x.val.s) := HBX7.out.cell 4
  have x5 : W7.cell? ⟨w.heap.size, 5, none⟩ = some (.slice u.va x.val.l.length u.vc) := HBX7.out.cell 5
  have x6 : W7.cell? ⟨w.heap.size, 6, none⟩ = some (.int .i64 x.val.r) := HBX7.out.cell 6
  have x7 : W7.cell? ⟨w.heap.size, 7, none⟩ = some (.slice u.la x.vals.length u.lc) := HBX7.out.cell 7
  have x8 : W7.cell? ⟨w.heap.size, 8, none⟩ = some (.int .i64 x.n) := HBX7.out.cell 8
  have x9 : W7.cell? ⟨w.heap.size, 9, none⟩ = some (.int .i64 x.lost) := HBX7.out.cell 9
  have x10 : W7.cell? ⟨w.heap.size, 10, none⟩ = some (.int .i64 x.of_) := HBX7.out.cell 10
  have x11 : W7.cell? ⟨w.heap.size, 11, none⟩ = some (.int .i64 x.by_) := HBX7.out.cell 11
  have x12 : W7.cell? ⟨w.heap.size, 12, none⟩ = some (.int .u8 x.set) := HBX7.out.cell 12
  have x13 : W7.cell? ⟨w.heap.size, 13, none⟩ = some (.bool x.full) := HBX7.out.cell 13
  have x14 : W7.cell? ⟨w.heap.size, 14, none⟩ = some (.slice u.ca x.code.length u.cc) := HBX7.out.cell 14
  have x15 : W7.cell? ⟨w.heap.size, 15, none⟩ = some (.slice u.na x.names.length u.nc) := HBX7.out.cell 15
  clear hW7
  go_wp2_with fail
  refine (ownWhat_any Dx z x u W7 HP.out HMAY.out (HX.out.fr HFW7.out (fun _ _ h => h)) (fun b hd => by have := HDX.out b hd; have := HFW7.out.size; omega)).mono ?_
  rintro e W8 ⟨u2, rfl, hrx8, hf8⟩
  have hrx9 := hrx8.weak HP.out
  have hs8 := hf8.size
  have hs7 := HFW7.out.size
  have hbx8 := HBX7.out.keep hf8 (fun h => h)
  have hfw8 := HFW7.out.trans hf8
  have HRX9 := Lib.hid hrx9; clear hrx9 hrx8
  have HFW8 := Lib.hid hfw8; clear hfw8
  have HBX8 := Lib.hid hbx8; clear hbx8
  have HS8 := Lib.hid hs8; clear hs8
  have HS7 := Lib.hid hs7; clear hs7
  clear hf8 x0 x1 x2 x3 x4 x5 x6 x7 x8 x9 x10 x11 x12 x13 x14 x15
  go_wp2_with fail
  refine (lay_any (H.out.keep HFW8.out (fun _ _ h => h) (fun _ _ h => h)) x u2 _ HK14.out HSIDE.out HMADE.out HRX9.out (fun i hd => ⟨hd.2, fun hM => by have h1 := H.out.mlt i hM; have h2 := hd.1; have h3 := HS7.out; omega⟩)).mono ?_
  rintro e W9 ⟨rfl, hrep, hf9⟩
  have hlt : ∀ i, (i = p ∨ i = bt ∨ i = bm) → i < w.heap.size := by
    rintro i (e | e | e)
    · rw [e]; exact H.out.mlt _ H.out.m.1
    · rw [e]; exact H.out.mlt _ H.out.m.2.2.1
    · rw [e]; exact H.out.mlt _ H.out.m.2.2.2.2
  have hbx9 : Blk W9 w.heap.size (x.cells u) 69 := HBX8.out.keep hf9 (fun e => by have := hlt _ e; omega)
  have x0 : W9.cell? ⟨w.heap.size, 0, none⟩ = some (.int .u8 x.kind) := hbx9.cell 0
  have hout : MakeOut w p W M D pa pc bc bt bf bm fk FL x (.returned (.tuple #[.int .i64 (W.last + 1), .int .i64 0])) W9 :=
    ⟨_, _, _, _, rfl, hrep, fun i hi => by
      have h1 := HS8.out
      have h2 := HS7.out
      rcases hi with hi | hi
      · exact .inl hi
      · exact .inr (by omega), fun i hi => by
      have h2 := HS7.out
      rcases hi with hi | hi
      · exact .inl hi
      · exact .inr (by have := hi.1; omega), HFW8.out.mono (fun _ _ h => h.elim) |>.trans' hf9 (fun i _ h => h)⟩
  have HOUT := Lib.hid hout; clear hout
  clear hrep hf9 hlt hbx9
  go_wp2
  go_ret2
  exact HOUT.out
end
end Go.Proofs.Ytpgjbbefgacjkaa
