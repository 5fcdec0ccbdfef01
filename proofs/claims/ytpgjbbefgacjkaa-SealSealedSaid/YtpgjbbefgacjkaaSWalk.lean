/- The walk of 'SealSealed'. -/
import Derived.Test.YtpgjbbefgacjkaaSL1
import Derived.Test.YtpgjbbefgacjkaaSRegs
namespace Go.Proofs.Ytpgjbbefgacjkaa
open Go.RowKit
set_option linter.unusedSimpArgs false
set_option linter.unusedVariables false
set_option linter.unusedSectionVars false
def Sealed_ (w : World) (p : Nat) (W' : AW) (M D : Nat → Prop) (bc bt bf bm : Nat) (w' : World) : Prop :=
  ∃ M' D' ck' L', RepW w' p W' M' D' none 0 bc bt bf bm ck' 0 L' [] ∧ (∀ i, M' i → M i ∨ w.heap.size ≤ i) ∧ (∀ i, D' i → D i ∨ w.heap.size ≤ i) ∧ Fr (fun i => i = p ∨ i = bt ∨ i = bm) w w'
theorem sealed_ {w W' : World} {p : Nat} {W : AW} {M D : Nat → Prop} {bc bt bf bm : Nat} {b : Int} (hf : Fr none_ w W') (e : Ending) (w' : World) (h : GoOut W' p W M D none 0 bc bt bf bm 0 [] (.tuple #[.int .i64 b, .int .i64 0]) e w') : e = .returned (.tuple #[.int .i64 b, .int .i64 0]) ∧ Sealed_ w p W M D bc bt bf bm w' := by
  obtain ⟨M', D', ck', L', rfl, h1, h2, h3, h4⟩ := h
  have hs := hf.size
  exact ⟨rfl, M', D', ck', L', h1, fun i hi => (h2 i hi).imp id (fun h => by omega), fun i hi => (h3 i hi).imp id (fun h => by omega), (hf.mono (fun _ _ h => h.elim)).trans h4⟩
theorem no_ {w W' : World} (hf : Fr none_ w W') (e : Ending) (w' : World) (h : MakeNo W' 2 e w') : e = .returned (.tuple #[.int .i64 0, .int .i64 2]) ∧ Fr none_ w w' := ⟨h.1, hf.trans h.2⟩
set_option maxRecDepth 100000 in
set_option maxHeartbeats 8000000 in
theorem sealed_any (w : World) (wa : Option Addr) (wl wc : Nat) (va : Option Addr) (vc : Nat) (xs : List V) (hl : xs.length ≤ 2199023255552) (hv : RVs w (· < w.heap.size) False xs va)
    (hw : ∀ i, i < wl → ∃ b o n, wa = some ⟨b, o, none⟩ ∧ w.cell? ⟨b, o + i, none⟩ = some (.int .u8 n) ∧ 0 ≤ n ∧ n ≤ 255) :
    Calls Try.prog 6 #[.slice wa wl wc, .slice va xs.length vc] w fun e w' => e = .returned (.bool true) ∧ Below w.heap.size w w' := by
  go_enter Try.func6, Try.ntmps6
  go_wp2_with fail
  refine (pairsOf_6 w).mono ?_
  rintro e W1 ⟨p, bc, bt, bf, bm, M1, D1, ck, L, sa, sc, oa, oc, rfl, h1, hs1, ho1, hmd1, hml1, hf1⟩
  have H1 := Lib.hid h1; clear h1
  have HS1 := Lib.hid hs1; clear hs1
  have HO1 := Lib.hid ho1; clear ho1
  have HMD1 := Lib.hid hmd1; clear hmd1
  have HML1 := Lib.hid hml1; clear hml1
  have HF1 := Lib.hid hf1; clear hf1
  have HV := Lib.hid hv; clear hv
  have HW := Lib.hid hw; clear hw
  go_upto_block 0 with (fail)
  go_cut [4, 8, 9, 10] from 11 to 93 (fun s4 s8 s9 s10 w' => P2 w p bc bt bf bm oa s8 s9 s10 w')
  case first =>
    go_wp2_with fail
    go_loopg [8, 9, 10, 11] (60) (fun g s8 s9 s10 s11 wr => L1R w p bc bt bf bm sa sc oa oc g s8 s9 s10 s11 wr)
    case atStart => exact L1.start H1.out HS1.out HO1.out HMD1.out HML1.out HF1.out
    case round =>
      obtain ⟨i, W, M, D, ck2, L2, E, ba, bcap, qa, qcap, ha, hcap, hx, Eh, hig, hEi, rfl, rfl, rfl, rfl, hL⟩ := hrel
      clear H1 HS1 HO1 HMD1 HML1 HF1
      have HL := Lib.hid hL; clear hL
      by_cases hgo : i < wl ∧ i < xs.length ∧ i < 60
      · obtain ⟨h1, h2, h3⟩ := hgo
        have hi1 : (i : Int) < (wl : Int) := by omega
        have hi2 : (i : Int) < (xs.length : Int) := by omega
        have hi3 : (i : Int) < 60 := by omega
        obtain ⟨wb, wo, nn, rfl, hwc, hn0, hn1⟩ := HW.out i h1
        obtain ⟨vb, vo, VA, vcc, rfl, hvd, v0, v1, v2, v3, v4, hrv⟩ := RVs.elem HV.out h2
        have hfr := HL.out.fr
        replace hwc := hfr.cellN hwc
        replace v0 := hfr.cellN v0
        replace v1 := hfr.cellN v1
        replace v2 := hfr.cellN v2
        replace v3 := hfr.cellN v3
        replace v4 := hfr.cellN v4
        replace hrv := hrv.fr hfr (fun _ _ h => h)
        have hws := hfr.size
        obtain ⟨K, hK⟩ : ∃ K : Nat, nn % 6 = (K : Int) := ⟨(nn % 6).toNat, by omega⟩
        have hK6 : K < 6 := by omega
        have HK := Lib.hid hK; clear hK
        have HRV := Lib.hid hrv; clear hrv
        have HFR := Lib.hid hfr; clear hfr
        obtain ⟨g1, hg1⟩ : ∃ g1, g1 = gk := ⟨_, rfl⟩
        have HG1 := Lib.hid hg1; clear hg1
        clear HV HW
        go_wp2_with fail
        refine (great_any _ _ xs[i] VA vcc wr HRV.out (fun b hb => Nat.lt_of_lt_of_le hb hws)).mono ?_
        rintro e w1 ⟨rfl, hf1⟩
        by_cases hgr : greatB xs[i] = true
        · rw [hgr]
          have HL1 := Lib.hid (HL.out.keep0 hf1)
          clear HL hf1 hgr HRV
          go_wp2_with fail
          go_roundg (gk - 1)
          case measure => omega
          case rel => exact ⟨i + 1, W, M, D, ck2, L2, E, ba, bcap, qa, qcap, ha, hcap, hx, Eh, by omega, by omega, by go_num, rfl, rfl, rfl, HL1.out⟩
        · have hgr' : greatB xs[i] = false := by simpa using hgr
          rw [hgr']
          have HGR := Lib.hid hgr'; clear hgr hgr'
          have hrv1 := HRV.out.fr hf1 (fun _ _ h => h)
          have hs1 := hf1.size
          replace v0 := hf1.cellN v0
          replace v1 := hf1.cellN v1
          replace v2 := hf1.cellN v2
          replace v3 := hf1.cellN v3
          replace v4 := hf1.cellN v4
          have HR1 := Lib.hid hrv1; clear hrv1
          have HF1 := Lib.hid hf1; clear hf1
          go_wp2_with fail
          refine (within_any (12 + (E.length : Int)) (by omega) (by omega) xs[i] xs[i] (List.mem_singleton_self _) _ _ VA vcc w1 HR1.out (fun b hb => Nat.lt_of_lt_of_le hb (Nat.le_trans hws hs1))).mono ?_
          rintro e w2 ⟨A2, c2, rfl, hu, hf2⟩
          have hs2 := hf2.size
          have HU := Lib.hid hu; clear hu
          have HF2 := Lib.hid hf2; clear hf2
          go_upto_region 13 with (fail)
          obtain ⟨sb, so, rfl, hsc⟩ := (ownI_rd HL.out.s) K (by rw [sers_len]; exact hK6)
          rw [show (sers 6)[K]'(by rw [sers_len]; exact hK6) = 2 * (K : Int) + 1 by simp [sers]] at hsc
          rw [HK.out]
          refine code_gen ?_
          intro W3 hW
          have hf3 : Fr none_ w2 W3 := by rw [hW]; exact (Fr.refl _ _).alloc _
          have hq3 : Blk W3 w2.heap.size ((inV (12 + (E.length : Int)) xs[i]).cells A2 c2) 37 := by rw [hW]; exact Blk.new _ _ _
          clear hW
          have hu3 := HU.out.fr hf3 (fun _ _ h => h)
          have hsc3 := ((HF1.out.trans HF2.out).trans hf3).cellN hsc
          have hs3 := hf3.size
          clear hsc
          have HQ3 := Lib.hid hq3; clear hq3
          have HU3 := Lib.hid hu3; clear hu3
          have HF3 := Lib.hid hf3; clear hf3
          have HSC := Lib.hid hsc3; clear hsc3
          by_cases hmay : (inV (12 + (E.length : Int)) xs[i]).may = true
          · refine reg13 p sb so w2.heap.size K sc (inV (12 + (E.length : Int)) xs[i]) A2 c2 (13 + (E.length : Int)) 0 (Sealed_ W3 p (W.lay (xOf 7 0 (2 * (K : Int) + 1) (inV (12 + (E.length : Int)) xs[i]))) M D bc bt bf bm) hK6 _ W3 rfl rfl rfl rfl rfl HSC.out HQ3.out (fun W' hf => (sealAt (HL.out.rep.keep (((HF1.out.trans HF2.out).trans HF3.out).trans hf) (fun _ _ h => h) (fun _ _ h => h)) HL.out.sld K hK6 (by omega) xs[i] _ rfl A2 c2 _ hmay (HU3.out.fr hf (fun _ _ h => h)) (fun b hb => Nat.lt_of_lt_of_le hb.2 (Nat.le_trans hs3 hf.size))).mono (sealed_ hf)) _ ?_
            intro w4 hR
            have HMAY := Lib.hid hmay; clear hmay
            have HR := Lib.hid hR; clear hR
            simp only [backF, List.zip_cons_cons, List.zip_nil_right, List.zip_nil_left, List.foldl_cons, List.foldl_nil, List.setIfInBounds_toArray, List.set_cons_succ, List.set_cons_zero]
            go_upto_region 17 with (fail)
            obtain ⟨M', D', ck', L', hr', hM', hD', hf4⟩ := HR.out
            have f13 := (HF1.out.trans HF2.out).trans HF3.out
            have hs13 := f13.size
            have hs4 := hf4.size
            obtain ⟨h8, h9, h10, hlt⟩ := HL.out.rows f13 hf4
            have hqn : ∀ b, ((Value.slice ba E.length bcap).ownBlock = some b ∨ (Value.slice qa E.length qcap).ownBlock = some b ∨ (Value.slice ha E.length hcap).ownBlock = some b) → b ≠ w2.heap.size := fun b hb e => by
              have h1 := hlt b hb
              omega
            have hq4 := HQ3.out.keep hf4 (fun e => by
              have hm := HL.out.rep.m
              have h1 : ∀ b, M b → b ≠ w2.heap.size := fun b hb e => by have := HL.out.rep.mlt b hb; omega
              rcases e with e | e | e
              · exact h1 _ hm.1 e.symm
              · exact h1 _ hm.2.2.1 e.symm
              · exact h1 _ hm.2.2.2.2 e.symm)
            refine reg17 _ w4 rfl w.heap.size (.slice ba E.length bcap) (.slice qa E.length qcap) (.slice ha E.length hcap) E.length (rowI (boxn E.length)) (rowI (prn E)) hx (13 + (E.length : Int)) (K : Int) w2.heap.size _ A2 c2 (by omega) (by omega) rfl rfl rfl rfl rfl rfl h8 h9 h10 hq4 (fun b hb => (HL.out.bq b hb).1) (fun b hb => (HL.out.bq b hb).2) (fun b hb => HL.out.qh b hb) (fun e => hqn _ (.inl e) rfl) (fun e => hqn _ (.inr (.inl e)) rfl) (fun e => hqn _ (.inr (.inr e)) rfl) _ ?_
            intro e w5 g8 d8 g9 d9 g10 d10 r8 r9 r10 t8 t9 t10 n1 n2 n3 f5 x8 x9 x10
            have hL5 := HL.out.next K hK6 _ A2 c2 HMAY.out HF1.out HF2.out HU.out HF3.out hr' hM' hD' hf4 g8 d8 g9 d9 g10 d10 r8 r9 r10 t8 t9 t10 n1 n2 n3 f5
            have HL5 := Lib.hid hL5
            clear hL5 r8 r9 r10 t8 t9 t10 n1 n2 n3 f5 h8 h9 h10 hlt hqn hq4 hr' hM' hD' hf4 f13 HL HR HU HQ3 HU3
            simp only [List.foldl_cons, List.foldl_nil, List.setIfInBounds_toArray, List.set_cons_succ, List.set_cons_zero]
            rw [x8, x9, x10]
            generalize e 82 = y82
            generalize e 83 = y83
            generalize e 84 = y84
            generalize e 85 = y85
            generalize e 86 = y86
            generalize e 87 = y87
            generalize e 88 = y88
            generalize e 89 = y89
            generalize e 90 = y90
            generalize e 91 = y91
            generalize e 92 = y92
            generalize e 93 = y93
            clear x8 x9 x10 e
            go_wp2_with fail
            go_roundg (gk - 1)
            case measure => omega
            case rel => exact ⟨i + 1, _, M', D', ck', L', E ++ [(K, _)], _, d8, _, d9, _, d10, _, _, by omega, by simp; omega, by go_num, by simp, by simp, by simp, HL5.out⟩
          · have hmay' : (inV (12 + (E.length : Int)) xs[i]).may = false := by simpa using hmay
            clear hmay
            have HMAY := Lib.hid hmay'; clear hmay'
            refine reg13 p sb so w2.heap.size K sc (inV (12 + (E.length : Int)) xs[i]) A2 c2 0 2 (Fr none_ W3) hK6 _ W3 rfl rfl rfl rfl rfl HSC.out HQ3.out (fun W' hf => (seal_arg (HL.out.rep.keep (((HF1.out.trans HF2.out).trans HF3.out).trans hf) (fun _ _ h => h) (fun _ _ h => h)) (2 * (K : Int) + 1) _ A2 c2 _ False HMAY.out (HU3.out.fr hf (fun _ _ h => h)) (fun b hb => Nat.lt_of_lt_of_le hb.2 (Nat.le_trans hs3 hf.size))).mono (no_ hf)) _ ?_
            intro w4 hf4
            have hq4 := HQ3.out.keep hf4 (fun h => h)
            have q0 := hq4.cell 0; have q1 := hq4.cell 1; have q2 := hq4.cell 2; have q3 := hq4.cell 3; have q4 := hq4.cell 4
            have hql := hq4.lt
            have hu4 := HU3.out.fr hf4 (fun _ _ h => h)
            have HU4 := Lib.hid hu4; clear hu4 hq4
            have hs4 := hf4.size
            have HL4 := Lib.hid (HL.out.keep0 (((HF1.out.trans HF2.out).trans HF3.out).trans hf4))
            clear hf4 HL
            simp only [backF, List.zip_cons_cons, List.zip_nil_right, List.zip_nil_left, List.foldl_cons, List.foldl_nil, List.setIfInBounds_toArray, List.set_cons_succ, List.set_cons_zero]
            go_wp2_with fail
            refine (lmay_any _ False (inV (12 + (E.length : Int)) xs[i]) A2 c2 w4 HU4.out (fun b hb => Nat.lt_of_lt_of_le hb.2 (Nat.le_trans hs3 hs4))).mono ?_
            rintro e w5 ⟨rfl, hf5⟩
            have HL5 := Lib.hid (HL4.out.keep0 hf5)
            clear HL4 hf5
            rw [HMAY.out, Bool.and_false]
            go_wp2_with fail
            go_roundg (gk - 1)
            case measure => omega
            case rel => exact ⟨i + 1, W, M, D, ck2, L2, E, ba, bcap, qa, qcap, ha, hcap, hx, Eh, by omega, by omega, by go_num, rfl, rfl, rfl, HL5.out⟩
      · have hchk := HL.out.chk
        have hp2 : P2 w p bc bt bf bm oa (.slice ba E.length bcap) (.slice qa E.length qcap) (.slice ha E.length hcap) wr := ⟨W, E, ba, bcap, qa, qcap, ha, hcap, rfl, rfl, rfl, hchk, HL.out.sld, HL.out.six, by omega⟩
        have HP2 := Lib.hid hp2; clear hp2 hchk HL
        go_wp2_with fail
        all_goals
          go_meet
          case rel => exact HP2.out
  case rest =>
    obtain ⟨W, E, ba, bcap, qa, qcap, ha, hcap, rfl, rfl, rfl, hchk, hsld, hsix, hE60⟩ := hcut
    have HCHK := Lib.hid hchk; clear hchk
    have HSLD := Lib.hid hsld; clear hsld
    have HSIX := Lib.hid hsix; clear hsix
    clear H1 HS1 HO1 HMD1 HML1 HF1 HV HW
    go_wp2_with fail
    go_loopg [16] (E.length) (fun g s16 wr => ∃ i : Nat, i + g = E.length ∧ s16 = .int .i64 (i : Int) ∧ Chk w wr p bc bt bf bm W E oa ba qa ha)
    case atStart => exact ⟨0, by omega, rfl, HCHK.out⟩
    case round =>
      obtain ⟨i, hig, rfl, hchk⟩ := hrel
      clear HCHK
      have HCHK := Lib.hid hchk; clear hchk
      by_cases hlt : i < E.length
      · have hib : (i : Int) < E.length := by omega
        obtain ⟨g1, hg1⟩ : ∃ g1, g1 = gk := ⟨_, rfl⟩
        go_wp2_with fail
        go_loopg [17] (6) (fun g s17 wr => ∃ k : Nat, k + g = 6 ∧ s17 = .int .i64 (k : Int) ∧ Chk w wr p bc bt bf bm W E oa ba qa ha)
        case atStart => exact ⟨0, rfl, rfl, HCHK.out⟩
        case round =>
          obtain ⟨k, hkg, rfl, hchk⟩ := hrel
          clear HCHK
          have HCHK := Lib.hid hchk; clear hchk
          by_cases hk : k < 6
          · have hkb : (k : Int) < 6 := by omega
            obtain ⟨ob, oo, rfl, ho⟩ := HCHK.out.o k (by rw [opns_len]; exact hk)
            obtain ⟨bb, bo, rfl, hb⟩ := HCHK.out.b i (by rw [boxn_len]; exact hlt)
            obtain ⟨qb, qo, rfl, hq⟩ := HCHK.out.q i (by rw [prn_len]; exact hlt)
            obtain ⟨hb1', ho1, hcs, rfl, hD1, hcell, _, hrv⟩ := RVs.at_ (E.map (·.2)) ha i (by simpa using hlt) HCHK.out.h
            obtain ⟨A2, c2, rfl, _, _⟩ := hrv.form
            have hE2 : (E.map (·.2))[i]'(by simpa using hlt) = E[i].2 := by simp
            have hheldv : ∀ w', Fr none_ wr w' → RV w' (· < wr.heap.size) False E[i].2 (E[i].2.cells A2 c2) := fun w' hf => by
              have h1 := hrv.fr hf (fun _ _ h => h)
              simpa only [hE2] using h1
            have hheld : ∀ w', Fr none_ wr w' → ∀ j, j < 5 → w'.cell? ⟨hb1', ho1 + i * 5 + j, none⟩ = (E[i].2.cells A2 c2)[j]? := fun w' hf j hj => by
              have h1 := hcell j hj
              simp only [hE2] at h1
              rw [← h1]
              exact World.cell?_of_block (w := wr) (hf.block hb1' hD1 (fun h => h))
            have HHV := Lib.hid hheldv; clear hheldv
            have HHC := Lib.hid hheld; clear hheld
            clear hcell hrv hE2
            have HVA := Lib.hid (valAt_eq (E := E) i k hlt)
            have HEA := Lib.hid (errAt_eq (E := E) i k hlt)
            rw [show (opns 6)[k]'(by rw [opns_len]; exact hk) = 2 * (k : Int) + 2 by simp [opns]] at ho
            rw [show (boxn E.length)[i]'(by rw [boxn_len]; exact hlt) = 13 + (i : Int) by simp [boxn]] at hb
            rw [show (prn E)[i]'(by rw [prn_len]; exact hlt) = (E[i].1 : Int) by simp [prn]] at hq
            have hol := cell_lt ho
            have hbl := cell_lt hb
            go_upto_region 24 with (fail)
            refine reg24 _ _ rfl p ob oo bb bo k i _ E.length _ (valAt E i k) (errAt E i k) hk hlt (by omega) rfl rfl rfl rfl rfl ho hb (fun w' hf => openChk (HCHK.out.keep0 hf) HSLD.out i k hlt hk hE60) _ ?_
            intro e w1 b1 A1 c1 hb1 hb2 hb3 hb4 e18 e19
            simp only [List.foldl_cons, List.foldl_nil, List.setIfInBounds_toArray, List.set_cons_succ, List.set_cons_zero]
            rw [e18, e19]
            generalize e 105 = x105
            generalize e 106 = x106
            generalize e 107 = x107
            generalize e 108 = x108
            generalize e 109 = x109
            generalize e 110 = x110
            generalize e 111 = x111
            generalize e 112 = x112
            generalize e 113 = x113
            generalize e 114 = x114
            generalize e 115 = x115
            generalize e 116 = x116
            generalize e 117 = x117
            generalize e 104 = x104
            clear e18 e19 e
            have hu1 := hb3.weak (z' := True) id
            have hfw1 := hb4.size
            have HB2 := Lib.hid hb2; clear hb2
            have HU1 := Lib.hid hu1; clear hu1 hb3
            have HF1 := Lib.hid hb4; clear hb4
            go_upto_region 25 with (fail)
            refine reg25 b1 qb qo hb1' ho1 i k E[i].1 E.length qcap hcap (valAt E i k) E[i].2 A1 A2 c1 c2 _ _ True False hlt hE60 _ w1 rfl rfl rfl rfl rfl rfl (by show some (Value.int .i64 (errAt E i k)) = _; rw [HEA.out]) HB2.out (HF1.out.cellN hq) (HHC.out w1 HF1.out) HU1.out (fun j hj => hj.2) (HHV.out w1 HF1.out) (fun j hj => by have : j < wr.heap.size := hj; omega) HVA.out _ ?_
            intro e w2 hf2 e153
            have hs12 := hf2.size
            simp only [List.foldl_cons, List.foldl_nil, List.setIfInBounds_toArray, List.set_cons_succ, List.set_cons_zero]
            rw [e153]
            generalize e 118 = y118
            generalize e 119 = y119
            generalize e 120 = y120
            generalize e 121 = y121
            generalize e 122 = y122
            generalize e 123 = y123
            generalize e 124 = y124
            generalize e 125 = y125
            generalize e 126 = y126
            generalize e 127 = y127
            generalize e 128 = y128
            generalize e 129 = y129
            generalize e 130 = y130
            generalize e 131 = y131
            generalize e 132 = y132
            generalize e 133 = y133
            generalize e 134 = y134
            generalize e 135 = y135
            generalize e 136 = y136
            generalize e 137 = y137
            generalize e 138 = y138
            generalize e 139 = y139
            generalize e 140 = y140
            generalize e 141 = y141
            generalize e 142 = y142
            generalize e 143 = y143
            generalize e 144 = y144
            generalize e 145 = y145
            generalize e 146 = y146
            generalize e 147 = y147
            generalize e 148 = y148
            generalize e 149 = y149
            generalize e 150 = y150
            generalize e 151 = y151
            generalize e 152 = y152
            clear e153 e
            have hb2' := HB2.out.keep hf2 (fun h => h)
            have q0 := hb2'.cell 0; have q1 := hb2'.cell 1; have q2 := hb2'.cell 2; have q3 := hb2'.cell 3; have q4 := hb2'.cell 4
            have hlt2 := hb2'.lt
            have hu2 := HU1.out.fr hf2 (fun _ _ h => h)
            obtain ⟨nr, hrp⟩ := RV.rp _ _ hu2
            have HRP := Lib.hid hrp; clear hrp hu2 hb2'
            have HF2 := Lib.hid (HF1.out.trans hf2); clear hf2
            have hsz2 := HF2.out.size
            go_wp2_with fail
            refine (over_any _ nr _ w2 HRP.out (fun j hj => Nat.lt_of_lt_of_le hj.2 hs12)).mono ?_
            rintro e w3 ⟨⟨ov, rfl⟩, how, _⟩
            have hf3 : Fr none_ wr w3 := HF2.out.trans' how (fun j hj hD => absurd hD.1.1 (Nat.not_le_of_lt hj))
            have HF3 := Lib.hid hf3; clear hf3 how HRP HF2 q0 q1 q2 q3 q4 hlt2
            have hsz3 := HF3.out.size
            go_upto_region 28 with (fail)
            refine reg28 _ _ rfl p ob oo bb bo k i _ E.length _ (valAt E i k) (errAt E i k) hk hlt (by omega) rfl rfl rfl rfl rfl (HF3.out.cellN ho) (HF3.out.cellN hb) (fun w' hf => doChk (HCHK.out.keep0 (HF3.out.trans hf)) HSLD.out i k hlt hk hE60) _ ?_
            intro e w4 b2 A3 c3 hb5 hb6 hb7 hb8 e20 e21
            simp only [List.foldl_cons, List.foldl_nil, List.setIfInBounds_toArray, List.set_cons_succ, List.set_cons_zero]
            rw [e20, e21]
            generalize e 157 = z157
            generalize e 158 = z158
            generalize e 159 = z159
            generalize e 160 = z160
            generalize e 161 = z161
            generalize e 162 = z162
            generalize e 163 = z163
            generalize e 164 = z164
            generalize e 165 = z165
            generalize e 166 = z166
            generalize e 167 = z167
            generalize e 168 = z168
            generalize e 169 = z169
            generalize e 156 = z156
            clear e20 e21 e
            have hu3 := hb7.weak (z' := True) id
            have HB6 := Lib.hid hb6; clear hb6
            have HU3 := Lib.hid hu3; clear hu3 hb7
            have HF4 := Lib.hid (HF3.out.trans hb8); clear hb8
            have hsz4 := HF4.out.size
            go_upto_region 29 with (fail)
            refine reg29 b2 qb qo hb1' ho1 i k E[i].1 E.length qcap hcap (valAt E i k) E[i].2 A3 A2 c3 c2 _ _ True False hlt hE60 _ w4 rfl rfl rfl rfl rfl rfl (by show some (Value.int .i64 (errAt E i k)) = _; rw [HEA.out]) (by show some (Value.int .i64 (errAt E i k)) = _; rw [HEA.out]) HB6.out (HF4.out.cellN hq) (HHC.out w4 HF4.out) HU3.out (fun j hj => hj.2) (HHV.out w4 HF4.out) (fun j hj => by have : j < wr.heap.size := hj; omega) HVA.out _ ?_
            intro e w5 hf5 e189
            simp only [List.foldl_cons, List.foldl_nil, List.setIfInBounds_toArray, List.set_cons_succ, List.set_cons_zero]
            rw [e189]
            generalize e 170 = z170
            generalize e 171 = z171
            generalize e 172 = z172
            generalize e 173 = z173
            generalize e 174 = z174
            generalize e 175 = z175
            generalize e 176 = z176
            generalize e 177 = z177
            generalize e 178 = z178
            generalize e 179 = z179
            generalize e 180 = z180
            generalize e 181 = z181
            generalize e 182 = z182
            generalize e 183 = z183
            generalize e 184 = z184
            generalize e 185 = z185
            generalize e 186 = z186
            generalize e 187 = z187
            generalize e 188 = z188
            clear e189 e
            have HC5 := Lib.hid (HCHK.out.keep0 (HF4.out.trans hf5)); clear hf5
            clear HCHK
            go_wp2_with fail
            go_roundg (gk - 1)
            case measure => omega
            case rel => exact ⟨k + 1, by omega, by go_num, HC5.out⟩
          · obtain rfl : k = 6 := by omega
            clear hk
            go_wp2
            go_roundg (g1 - 1)
            case measure => omega
            case rel => exact ⟨i + 1, by omega, by go_num, HCHK.out⟩
      · obtain rfl : i = E.length := by omega
        clear hlt
        go_wp2_with fail
        refine (awake9 wr).mono ?_
        rintro e w2 ⟨rfl, hf2⟩
        have HF2 := Lib.hid (HCHK.out.fr.trans hf2); clear hf2
        go_wp2
        go_ret
        exact ⟨rfl, HF2.out.below⟩
end Go.Proofs.Ytpgjbbefgacjkaa
