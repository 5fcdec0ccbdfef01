/- 'Gates' and 'cut' of package gate. -/
import Derived.Test.YtkiinokhdmmagaaGreatEach
import Derived.Test.YtkiinokhdmmagaaGreatWhat
namespace Go.Proofs.YtkiinokhdmmagaaGreat
open Go.RowKit Go.Shelf
set_option linter.unusedSimpArgs false
set_option linter.unusedVariables false
set_option linter.unusedSectionVars false
section
variable {w : World} {p : Nat} {W : AW} {M D : Nat → Prop} {pa : Option Addr} {pc bc bt bf bm ck fk : Nat} {L : List (Int × Nat × Nat)} {FL : List ((Int × Int) × Int × Nat)}
/-- The function over a thing's gates, handed back. -/
def EachOut (w : World) (p : Nat) (r : Int) (e : Ending) (w' : World) : Prop :=
  e = .returned (.func (.func 78) #[] #[.pointer (some ⟨w.heap.size, 0, none⟩), .pointer (some ⟨w.heap.size + 1, 0, none⟩)]) ∧ w'.cell? ⟨w.heap.size, 0, none⟩ = some (.pointer (some ⟨p, 0, none⟩)) ∧ w'.cell? ⟨w.heap.size + 1, 0, none⟩ = some (.int .i64 r) ∧ Fr none_ w w' ∧ w'.heap.size = w.heap.size + 2
set_option maxRecDepth 100000 in
set_option maxHeartbeats 1000000 in
theorem each_any (p : Nat) (r : Int) (w : World) : Calls Tryz.prog 52 #[.pointer (some ⟨p, 0, none⟩), .int .i64 r] w (EachOut w p r) := by
  have hmf : ∀ (fn : Fn) (first cap : Array Value) (w : World), (Instr.makeFunc fn first cap).run Tryz.prog w = .ok (.func fn first cap) w := fun _ _ _ _ => rfl
  have h0 := ((Blk.new w [.pointer (some ⟨p, 0, none⟩)] 31).alloc (.cells #[.int .i64 r] 22)).cell 0
  have h1 := (Blk.new (w.alloc (.cells #[.pointer (some ⟨p, 0, none⟩)] 31)) [.int .i64 r] 22).cell 0
  rw [World.size_alloc] at h1
  have H0 := Lib.hid h0; clear h0
  have H1 := Lib.hid h1; clear h1
  go_enter Tryz.func52, Tryz.ntmps52
  go_wp2
  go_ret
  exact ⟨rfl, H0.out, H1.out, ((Fr.refl _ _).alloc _).alloc _, by simp⟩
set_option maxRecDepth 100000 in
set_option maxHeartbeats 1000000 in
theorem collect_any (gf : Nat) (lb : Array Value) (gs : List Int) (N : Nat) (w : World) (hN : N ≤ 1000000) (eg : ∀ args w, (callFunc gf args).run Tryz.prog w = .ok (.enter gf args) w)
    (hseq : SeqStopsK Fence.wide 4 Tryz.prog gf lb (fun x : Int => #[.int .i64 x]) (Kept w.heap.size (ZB w.heap.size)) (fun xs => xs = gs) (fun pre => pre <+: gs) N (w.alloc (.cells #[.slice none 0 0] 54))) :
    Calls Tryz.prog 51 #[.func (.func gf) #[] lb] w (RefsBack w gs) := by
  have HS := Lib.hid hseq; clear hseq
  have HG := Lib.hid eg; clear eg
  go_enter Tryz.func51, Tryz.ntmps51
  go_wp2_with fail
  refine (appendSeq_any gf lb gs N w hN HG.out HS.out).mono ?_
  rintro e w' ⟨v, rfl, hown, hf⟩
  have HO := Lib.hid hown; clear hown
  have HF := Lib.hid hf; clear hf
  go_wp2
  go_ret
  exact ⟨v, rfl, HO.out, HF.out⟩
/-- The contract of 'each', where the collector's box stands ready. -/
theorem each_stops (h : RepW w p W M D pa pc bc bt bf bm ck fk L FL) (r : Int) (l : List Int) (hw : WayOf W r l) (hl : l.length ≤ 1000000) (b1 b2 : Nat) (h1 : w.cell? ⟨b1, 0, none⟩ = some (.pointer (some ⟨p, 0, none⟩))) (h2 : w.cell? ⟨b2, 0, none⟩ = some (.int .i64 r)) :
    SeqStopsK Fence.wide 4 Tryz.prog 78 #[.pointer (some ⟨b1, 0, none⟩), .pointer (some ⟨b2, 0, none⟩)] (fun x : Int => #[.int .i64 x]) (Kept w.heap.size (ZB w.heap.size)) (fun xs => xs = gatesIn W l) (fun pre => pre <+: gatesIn W l) l.length (w.alloc (.cells #[.slice none 0 0] 54)) := by
  have hf : Fr none_ w (w.alloc (.cells #[.slice none 0 0] 54)) := (Fr.refl _ _).alloc _
  have hb := Blk.new w [.slice none 0 0] 54
  have hr := h.keep hf (fun _ _ h => h) (fun _ _ h => h)
  refine each1_stops hr r l hw hl b1 b2 (cell_keep (fun hb => hf.block b1 hb (fun h => h)) h1) (cell_keep (fun hb => hf.block b2 hb (fun h => h)) h2) (ZB w.heap.size) _ w.heap.size hf.size h.mlt h.dlt (cell_lt h1) (fun _ _ h => h) ?_ 4 (by omega)
  rintro Wa hbw b (rfl | ⟨sv, hc, hs⟩)
  · simp
  · have e : Wa.cell? ⟨w.heap.size, 0, none⟩ = some (.slice none 0 0) := cell_keep (fun hb => hbw.block _ hb) (hb.cell 0)
    rw [e] at hc
    injection hc with hc
    subst hc
    cases hs
def Gates_ (w : World) (gs : List Int) (e : Ending) (w' : World) : Prop := ∃ v, e = .returned (.tuple #[v, .int .i64 0]) ∧ OwnI w' w.heap.size 22 v gs ∧ Fr none_ w w'
set_option maxRecDepth 100000 in
set_option maxHeartbeats 1000000 in
theorem gates_any (h : RepW w p W M D pa pc bc bt bf bm ck fk L FL) (r : Int) (l : List Int) (hw : WayOf W r l) (hl : l.length ≤ 1000000) (his : (W.at_ r).isSome = true) :
    Calls Tryz.prog 22 #[.pointer (some ⟨p, 0, none⟩), .int .i64 r] w (Gates_ w (gatesIn W l)) := by
  have H := Lib.hid h; clear h
  have HW := Lib.hid hw; clear hw
  have HL := Lib.hid hl; clear hl
  have HIS := Lib.hid his; clear his
  go_enter Tryz.func22, Tryz.ntmps22
  go_wp2_with fail
  refine (gthere_any H.out).mono ?_
  rintro e w1 ⟨rfl, rfl⟩
  go_wp2_with fail
  refine (is_any H.out r).mono ?_
  rintro e w2 ⟨rfl, rfl⟩
  rw [HIS.out]
  go_wp2_with fail
  refine (each_any p r _).mono ?_
  rintro e w1 ⟨rfl, h1, h2, hf, hsz⟩
  have hr1 := H.out.keep hf (fun _ _ h => h) (fun _ _ h => h)
  have HR1 := Lib.hid hr1; clear hr1
  have HF := Lib.hid hf; clear hf
  have HSZ := Lib.hid hsz; clear hsz
  have K1 := Lib.hid h1; clear h1
  have K2 := Lib.hid h2; clear h2
  go_wp2_with fail
  refine (collect_any 78 _ _ _ w1 HL.out (enters_of Tryz.func78 (by kernel_rfl) rfl) (each_stops HR1.out r l HW.out HL.out _ _ K1.out K2.out)).mono ?_
  rintro e w3 ⟨v, rfl, hown, hf3⟩
  have ho2 := ownsRow_base hown (by have := HSZ.out; omega : w2.heap.size ≤ w1.heap.size)
  have hf4 := HF.out.trans hf3
  have HO := Lib.hid ho2; clear ho2 hown
  have HF4 := Lib.hid hf4; clear hf4 hf3
  go_wp2
  go_ret2
  exact ⟨v, rfl, HO.out, HF4.out⟩
/-! ### cut -/
def cutB (W : AW) (g : Int) : Bool := match W.at_ g with | some x => (match W.at_ x.by_ with | some y => decide (x.kind = 15) && y.full | none => false) | none => false
set_option maxRecDepth 100000 in
set_option maxHeartbeats 4000000 in
theorem gcut_yy (h : RepW w p W M D pa pc bc bt bf bm ck fk L FL) (hok : W.Ok) (g : Int) (x y : X) (hx : W.at_ g = some x) (hy : W.at_ x.by_ = some y) :
    Calls Tryz.prog 50 #[.pointer (some ⟨p, 0, none⟩), .int .i64 g] w (Bool_ w (cutB W g)) := by
  have hz := zero_What
  have hpx := hok.at_ hx
  have hpy := hok.at_ hy
  have hc : cutB W g = (decide (x.kind = 15) && y.full) := by unfold cutB; rw [hx]; simp only [hy]
  have HC := Lib.hid hc; clear hc
  have H := Lib.hid h; clear h
  have HX := Lib.hid hx; clear hx
  have HY := Lib.hid hy; clear hy
  have HPX := Lib.hid hpx; clear hpx
  have HPY := Lib.hid hpy; clear hpy
  clear hok
  go_enter Tryz.func50, Tryz.ntmps50
  go_wp2_with fail
  refine (what_yes H.out g x HX.out HPX.out.1 HPX.out.2).mono ?_
  rintro e W1 ⟨u, rfl, hrx, hf⟩
  have HF := Lib.hid hf; clear hf hrx
  go_upto_region 2 with (fail)
  refine code_gen ?_
  intro W2 hW
  have hb : Blk W2 W1.heap.size (x.cells u) 80 := by rw [hW]; exact Blk.new W1 _ _
  have hf2 : Fr none_ w W2 := by rw [hW]; exact HF.out.alloc _
  clear hW
  have y11 : W2.cell? ⟨W1.heap.size, 11, none⟩ = some (.int .i64 x.by_) := hb.cell 11
  have HF2 := Lib.hid hf2; clear hf2
  have HB := Lib.hid hb; clear hb
  go_wp2_with fail
  refine (what_yes (H.out.keep HF2.out (fun _ _ h => h) (fun _ _ h => h)) x.by_ y HY.out HPY.out.1 HPY.out.2).mono ?_
  rintro e W3 ⟨u2, rfl, hrx, hf⟩
  clear hrx
  have hb3 := HB.out.keep hf (fun h => h)
  have hf3 := HF2.out.trans hf
  have HF3 := Lib.hid hf3; clear hf3 hf
  have HB3 := Lib.hid hb3; clear hb3
  clear y11
  go_upto_region 3 with (fail)
  refine code_gen ?_
  intro W4 hW
  have hb4 : Blk W4 W3.heap.size (y.cells u2) 80 := by rw [hW]; exact Blk.new W3 _ _
  have hf4 : Fr none_ w W4 := by rw [hW]; exact HF3.out.alloc _
  have hb5 : Blk W4 W1.heap.size (x.cells u) 80 := by rw [hW]; exact HB3.out.alloc _
  clear hW
  have y0 : W4.cell? ⟨W1.heap.size, 0, none⟩ = some (.int .u8 x.kind) := hb5.cell 0
  have z13 : W4.cell? ⟨W3.heap.size, 13, none⟩ = some (.bool y.full) := hb4.cell 13
  have HF4 := Lib.hid hf4; clear hf4
  clear hb4 hb5
  by_cases e15 : x.kind = 15
  · have d15 : (x.kind == 15) = true := by simp [e15]
    have E := Lib.hid e15; clear e15
    go_wp2
    go_ret
    exact ⟨ret_bool (by rw [HC.out] <;> simp [E.out]), HF4.out⟩
  · have d15 : (x.kind == 15) = false := by simpa using e15
    have E := Lib.hid e15; clear e15
    go_wp2
    go_ret
    exact ⟨ret_bool (by rw [HC.out] <;> simp [E.out]), HF4.out⟩
set_option maxRecDepth 100000 in
set_option maxHeartbeats 4000000 in
theorem gcut_yn (h : RepW w p W M D pa pc bc bt bf bm ck fk L FL) (hok : W.Ok) (g : Int) (x : X) (hx : W.at_ g = some x) (hy : W.at_ x.by_ = none) :
    Calls Tryz.prog 50 #[.pointer (some ⟨p, 0, none⟩), .int .i64 g] w (Bool_ w (cutB W g)) := by
  have hz := zero_What
  have hpx := hok.at_ hx
  have hc : cutB W g = false := by unfold cutB; rw [hx]; simp only [hy]
  have HC := Lib.hid hc; clear hc
  have H := Lib.hid h; clear h
  have HX := Lib.hid hx; clear hx
  have HY := Lib.hid hy; clear hy
  have HPX := Lib.hid hpx; clear hpx
  clear hok
  go_enter Tryz.func50, Tryz.ntmps50
  go_wp2_with fail
  refine (what_yes H.out g x HX.out HPX.out.1 HPX.out.2).mono ?_
  rintro e W1 ⟨u, rfl, hrx, hf⟩
  have HF := Lib.hid hf; clear hf hrx
  go_upto_region 2 with (fail)
  refine code_gen ?_
  intro W2 hW
  have hb : Blk W2 W1.heap.size (x.cells u) 80 := by rw [hW]; exact Blk.new W1 _ _
  have hf2 : Fr none_ w W2 := by rw [hW]; exact HF.out.alloc _
  clear hW
  have y11 : W2.cell? ⟨W1.heap.size, 11, none⟩ = some (.int .i64 x.by_) := hb.cell 11
  have HF2 := Lib.hid hf2; clear hf2
  have HB := Lib.hid hb; clear hb
  go_wp2_with fail
  refine (what_no (H.out.keep HF2.out (fun _ _ h => h) (fun _ _ h => h)) x.by_ HY.out).mono ?_
  rintro e W3 ⟨rfl, hf⟩
  have hb3 := HB.out.keep hf (fun h => h)
  have hf3 := HF2.out.trans hf
  have HF3 := Lib.hid hf3; clear hf3 hf
  have HB3 := Lib.hid hb3; clear hb3
  clear y11
  go_upto_region 3 with (fail)
  refine code_gen ?_
  intro W4 hW
  have hb4 : Blk W4 W3.heap.size (zero16) 80 := by rw [hW]; exact Blk.new W3 _ _
  have hf4 : Fr none_ w W4 := by rw [hW]; exact HF3.out.alloc _
  have hb5 : Blk W4 W1.heap.size (x.cells u) 80 := by rw [hW]; exact HB3.out.alloc _
  clear hW
  have y0 : W4.cell? ⟨W1.heap.size, 0, none⟩ = some (.int .u8 x.kind) := hb5.cell 0
  have z13 : W4.cell? ⟨W3.heap.size, 13, none⟩ = some (.bool false) := hb4.cell 13
  have HF4 := Lib.hid hf4; clear hf4
  clear hb4 hb5
  by_cases e15 : x.kind = 15
  · have d15 : (x.kind == 15) = true := by simp [e15]
    have E := Lib.hid e15; clear e15
    go_wp2
    go_ret
    exact ⟨ret_bool (by rw [HC.out] <;> simp [E.out]), HF4.out⟩
  · have d15 : (x.kind == 15) = false := by simpa using e15
    have E := Lib.hid e15; clear e15
    go_wp2
    go_ret
    exact ⟨ret_bool (by rw [HC.out] <;> simp [E.out]), HF4.out⟩
set_option maxRecDepth 100000 in
set_option maxHeartbeats 4000000 in
theorem gcut_nn (h : RepW w p W M D pa pc bc bt bf bm ck fk L FL) (hok : W.Ok) (g : Int) (hx : W.at_ g = none) :
    Calls Tryz.prog 50 #[.pointer (some ⟨p, 0, none⟩), .int .i64 g] w (Bool_ w (cutB W g)) := by
  have hz := zero_What
  have hc : cutB W g = false := by unfold cutB; rw [hx]
  have hy : W.at_ 0 = none := by
    cases ha : W.at_ 0 with
    | none => rfl
    | some y => have := h.low _ (mem_of_at ha); simp at this
  have HC := Lib.hid hc; clear hc
  have H := Lib.hid h; clear h
  have HX := Lib.hid hx; clear hx
  have HY := Lib.hid hy; clear hy
  clear hok
  go_enter Tryz.func50, Tryz.ntmps50
  go_wp2_with fail
  refine (what_no H.out g HX.out).mono ?_
  rintro e W1 ⟨rfl, hf⟩
  have HF := Lib.hid hf; clear hf
  go_upto_region 2 with (fail)
  refine code_gen ?_
  intro W2 hW
  have hb : Blk W2 W1.heap.size (zero16) 80 := by rw [hW]; exact Blk.new W1 _ _
  have hf2 : Fr none_ w W2 := by rw [hW]; exact HF.out.alloc _
  clear hW
  have y11 : W2.cell? ⟨W1.heap.size, 11, none⟩ = some (.int .i64 0) := hb.cell 11
  have HF2 := Lib.hid hf2; clear hf2
  have HB := Lib.hid hb; clear hb
  go_wp2_with fail
  refine (what_no (H.out.keep HF2.out (fun _ _ h => h) (fun _ _ h => h)) 0 HY.out).mono ?_
  rintro e W3 ⟨rfl, hf⟩
  have hb3 := HB.out.keep hf (fun h => h)
  have hf3 := HF2.out.trans hf
  have HF3 := Lib.hid hf3; clear hf3 hf
  have HB3 := Lib.hid hb3; clear hb3
  clear y11
  go_upto_region 3 with (fail)
  refine code_gen ?_
  intro W4 hW
  have hb4 : Blk W4 W3.heap.size (zero16) 80 := by rw [hW]; exact Blk.new W3 _ _
  have hf4 : Fr none_ w W4 := by rw [hW]; exact HF3.out.alloc _
  have hb5 : Blk W4 W1.heap.size (zero16) 80 := by rw [hW]; exact HB3.out.alloc _
  clear hW
  have y0 : W4.cell? ⟨W1.heap.size, 0, none⟩ = some (.int .u8 0) := hb5.cell 0
  have z13 : W4.cell? ⟨W3.heap.size, 13, none⟩ = some (.bool false) := hb4.cell 13
  have HF4 := Lib.hid hf4; clear hf4
  clear hb4 hb5
  go_wp2
  go_ret
  exact ⟨ret_bool HC.out.symm, HF4.out⟩
theorem gcut_any (h : RepW w p W M D pa pc bc bt bf bm ck fk L FL) (hok : W.Ok) (g : Int) :
    Calls Tryz.prog 50 #[.pointer (some ⟨p, 0, none⟩), .int .i64 g] w (Bool_ w (cutB W g)) := by
  cases hx : W.at_ g with
  | none => exact gcut_nn h hok g hx
  | some x =>
    cases hy : W.at_ x.by_ with
    | none => exact gcut_yn h hok g x hx hy
    | some y => exact gcut_yy h hok g x y hx hy
end
end Go.Proofs.YtkiinokhdmmagaaGreat
