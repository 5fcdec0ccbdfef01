/- 'New' of package world, with no parents: the walk. -/
import Derived.Test.YtpgjbbefgacjkaaNew
namespace Go.Proofs.Ytpgjbbefgacjkaa
open Go.RowKit
set_option linter.unusedSimpArgs false
set_option linter.unusedVariables false
set_option linter.unusedSectionVars false
theorem rep_false (n i : Nat) : (Array.replicate n false).getD i false = false := by
  rw [Array.getD_eq_getD_getElem?, Array.getElem?_replicate]
  split <;> rfl
set_option maxRecDepth 100000 in
set_option maxHeartbeats 4000000 in
theorem new_0 (w : World) : Calls Try.prog 8 #[.slice none 0 0] w (NewOut w) := by
  have hms : ∀ W : World, (Instr.makeSlice 58 (.int .i64 1) (.int .i64 1)).run Try.prog W = .ok (.slice (some ⟨W.heap.size, 0, none⟩) 1 1) (W.alloc (.cells #[.bool false] 4)) := fun W => by kernel_rfl
  have hmi : ∀ W : World, (Instr.makeSlice 43 (.int .i64 1) (.int .i64 1)).run Try.prog W = .ok (.slice (some ⟨W.heap.size, 0, none⟩) 1 1) (W.alloc (.cells #[.int .i64 0] 3)) := fun W => by kernel_rfl
  have hm1 : ∀ W : World, (Instr.makeMap 59 none).run Try.prog W = .ok (.map (some W.heap.size)) (W.alloc (.map #[] 0)) := fun W => by kernel_rfl
  have hm2 : ∀ W : World, (Instr.makeMap 60 none).run Try.prog W = .ok (.map (some W.heap.size)) (W.alloc (.map #[] 0)) := fun W => by kernel_rfl
  have hbd : ∀ (W : World) (a b c d : Nat), (Instr.build 62 #[(0, .slice none 0 0), (1, .slice (some ⟨a, 0, none⟩) 1 1), (5, .slice (some ⟨b, 0, none⟩) 1 1), (2, .map (some c)), (3, .map (some d))]).run Try.prog W = .ok (.agg #[.slice none 0 0, .slice (some ⟨a, 0, none⟩) 1 1, .map (some c), .map (some d), .int .i64 0, .slice (some ⟨b, 0, none⟩) 1 1]) W := fun W a b c d => by kernel_rfl
  have hnv : ∀ (W : World) (a b c d : Nat), (Instr.box 62 (.agg #[.slice none 0 0, .slice (some ⟨a, 0, none⟩) 1 1, .map (some c), .map (some d), .int .i64 0, .slice (some ⟨b, 0, none⟩) 1 1])).run Try.prog W = .ok (.pointer (some ⟨W.heap.size, 0, none⟩)) (W.alloc (.cells #[.slice none 0 0, .slice (some ⟨a, 0, none⟩) 1 1, .map (some c), .map (some d), .int .i64 0, .slice (some ⟨b, 0, none⟩) 1 1] 62)) := fun W a b c d => by kernel_rfl
  go_enter Try.func8, Try.ntmps8
  go_wp2
  refine wp_loop_rounds 1 ?_
  rw [rounds_succ]
  go_wp2
  refine wp_region_inv (by kernel_rfl) (NI w) ?_ ?_ ?_
  · exact { sz := rfl, df := rfl, len := rfl, t0 := rfl, t6 := rfl, done := fun i hi hl => (by rw [rep_false] at hl; cases hl), ne := fun h6 => (by rw [rep_false] at h6; cases h6), fr := (Fr.refl _ _).drew }
  · intro listed a w' i h hi
    obtain ⟨h0, o, ho, hd⟩ := mem_ready.1 hi
    have hlt : i < 12 := (Array.getElem?_eq_some_iff.1 ho).1
    have hcase : i = 0 ∨ i = 1 ∨ i = 2 ∨ i = 3 ∨ i = 4 ∨ i = 5 ∨ i = 6 ∨ i = 7 ∨ i = 8 ∨ i = 9 ∨ i = 10 ∨ i = 11 := by omega
    rcases hcase with rfl | rfl | rfl | rfl | rfl | rfl | rfl | rfl | rfl | rfl | rfl | rfl
    · obtain rfl := Option.some.inj ho
      refine wpOp_step rfl (fun K hK => op_value rfl (v := .slice none 0 0) (w' := w') ?_ (hK _ _ (h.step (i := 0) hlt (Fr.refl _ _) (by unfold NF; simp) (fun e => by omega))))
      simp [execOp, h.t0]
    · obtain rfl := Option.some.inj ho
      have l0 : listed.getD 0 false = true := hd { on := 0, ground := .data } (by simp) rfl
      have e28 : a.eval (.tmp 28) = .slice none 0 0 := (h.done 0 (by omega) l0).1 (by omega)
      refine wpOp_step rfl (fun K hK => ?_)
      refine step_call' rfl (.func 25) _ _ 25 _ #[] #[.slice none 0 0] rfl rfl Try.func25 (by kernel_rfl) rfl (by simp [e28]) (clone_side_nil 0 _) ?_
      rintro e w'' ⟨rfl, rfl⟩
      exact ⟨_, rfl, hK _ _ (h.step (i := 1) hlt (Fr.refl _ _) (by unfold NF; simp) (fun e => by omega))⟩
    · obtain rfl := Option.some.inj ho
      refine wpOp_step rfl (fun K hK => op_value rfl (v := .int .i64 1) (w' := w') ?_ (hK _ _ (h.step (i := 2) hlt (Fr.refl _ _) (by unfold NF; simp) (fun e => by omega))))
      simp [execOp, h.t6]
    · obtain rfl := Option.some.inj ho
      have l2 : listed.getD 2 false = true := hd { on := 2, ground := .data } (by simp) rfl
      have e30 : a.eval (.tmp 30) = .int .i64 1 := (h.done 2 (by omega) l2).2.1 (.inl rfl)
      refine wpOp_step rfl (fun K hK => op_value rfl (v := .slice (some ⟨w'.heap.size, 0, none⟩) 1 1) (w' := w'.alloc (.cells #[.bool false] 4)) ?_ (hK _ _ (h.step (i := 3) hlt ((Fr.refl _ _).alloc _) (by unfold NF; simp; exact ⟨Blk.new _ _ _, h.fr.size⟩) (fun e => by omega))))
      simp [execOp, e30, hms, Result.andThen]
    · obtain rfl := Option.some.inj ho
      refine wpOp_step rfl (fun K hK => op_value rfl (v := .int .i64 1) (w' := w') ?_ (hK _ _ (h.step (i := 4) hlt (Fr.refl _ _) (by unfold NF; simp) (fun e => by omega))))
      simp [execOp, h.t6]
    · obtain rfl := Option.some.inj ho
      have l4 : listed.getD 4 false = true := hd { on := 4, ground := .data } (by simp) rfl
      have e32 : a.eval (.tmp 32) = .int .i64 1 := (h.done 4 (by omega) l4).2.1 (.inr rfl)
      refine wpOp_step rfl (fun K hK => op_value rfl (v := .slice (some ⟨w'.heap.size, 0, none⟩) 1 1) (w' := w'.alloc (.cells #[.int .i64 0] 3)) ?_ (hK _ _ (h.step (i := 5) hlt ((Fr.refl _ _).alloc _) (by unfold NF; simp; exact ⟨Blk.new _ _ _, h.fr.size⟩) (fun e => by omega))))
      simp [execOp, e32, hmi, Result.andThen]
    · obtain rfl := Option.some.inj ho
      refine wpOp_step rfl (fun K hK => op_value rfl (v := .map (some w'.heap.size)) (w' := w'.alloc (.map #[] 0)) ?_ (hK _ _ (h.step (i := 6) hlt ((Fr.refl _ _).alloc _) ⟨fun e => by omega, fun e => by omega, fun e => by omega, fun e => by omega, fun _ => ⟨_, rfl, heap_alloc_new _ _, h.fr.size⟩, fun e => by omega, fun e => by omega, fun e => by omega⟩ (fun e b hb => by injection hb with hb; injection hb with hb; exact hb.symm))))
      simp [execOp, hm1, Result.andThen]
    · obtain rfl := Option.some.inj ho
      refine wpOp_step rfl (fun K hK => op_value rfl (v := .map (some w'.heap.size)) (w' := w'.alloc (.map #[] 0)) ?_ (hK _ _ (h.step (i := 7) hlt ((Fr.refl _ _).alloc _) ⟨fun e => by omega, fun e => by omega, fun e => by omega, fun e => by omega, fun _ => ⟨_, rfl, heap_alloc_new _ _, h.fr.size⟩, fun e => by omega, fun e => by omega, fun e => by omega⟩ (fun e b hb => by injection hb with hb; injection hb with hb; exact hb.symm))))
      simp [execOp, hm2, Result.andThen]
    · obtain rfl := Option.some.inj ho
      have l1 : listed.getD 1 false = true := hd { on := 1, ground := .data } (by simp) rfl
      have l3 : listed.getD 3 false = true := hd { on := 3, ground := .data } (by simp) rfl
      have l5 : listed.getD 5 false = true := hd { on := 5, ground := .data } (by simp) rfl
      have l6 : listed.getD 6 false = true := hd { on := 6, ground := .data } (by simp) rfl
      have l7 : listed.getD 7 false = true := hd { on := 7, ground := .data } (by simp) rfl
      have e29 : a.eval (.tmp 29) = .slice none 0 0 := (h.done 1 (by omega) l1).1 (by omega)
      obtain ⟨bc, e31, hbc, nbc⟩ := (h.done 3 (by omega) l3).2.2.1 rfl
      obtain ⟨bm, e33, hbm, nbm⟩ := (h.done 5 (by omega) l5).2.2.2.1 rfl
      obtain ⟨bt, e34, hbt, nbt⟩ := (h.done 6 (by omega) l6).2.2.2.2.1 (.inl rfl)
      obtain ⟨bf, e35, hbf, nbf⟩ := (h.done 7 (by omega) l7).2.2.2.2.1 (.inr rfl)
      simp only [show nslot 3 = 31 from rfl, show nslot 5 = 33 from rfl, show nslot 6 = 34 from rfl, show nslot 7 = 35 from rfl] at e31 e33 e34 e35
      have hne := h.ne l6 l7 bt bf e34 e35
      refine wpOp_step rfl (fun K hK => op_value rfl (v := .agg #[.slice none 0 0, .slice (some ⟨bc, 0, none⟩) 1 1, .map (some bt), .map (some bf), .int .i64 0, .slice (some ⟨bm, 0, none⟩) 1 1]) (w' := w') ?_ (hK _ _ (h.step (i := 8) hlt (Fr.refl _ _) ⟨fun e => by omega, fun e => by omega, fun e => by omega, fun e => by omega, fun e => by omega, fun _ => ⟨bc, bm, bt, bf, rfl, hbc, hbm, hbt, hbf, hne, nbc, nbm, nbt, nbf⟩, fun e => by omega, fun e => by omega⟩ (fun e => by omega))))
      simp [execOp, e29, e31, e33, e34, e35, hbd, Result.andThen]
    · obtain rfl := Option.some.inj ho
      have l8 : listed.getD 8 false = true := hd { on := 8, ground := .data } (by simp) rfl
      obtain ⟨bc, bm, bt, bf, e36, hbc, hbm, hbt, hbf, hne, nbc, nbm, nbt, nbf⟩ := (h.done 8 (by omega) l8).2.2.2.2.2.1 rfl
      simp only [show nslot 8 = 36 from rfl] at e36
      have hk : ∀ o, Fr none_ w' (w'.alloc o) := fun o => (Fr.refl _ _).alloc o
      refine wpOp_step rfl (fun K hK => op_value rfl (v := .pointer (some ⟨w'.heap.size, 0, none⟩)) (w' := w'.alloc (.cells #[.slice none 0 0, .slice (some ⟨bc, 0, none⟩) 1 1, .map (some bt), .map (some bf), .int .i64 0, .slice (some ⟨bm, 0, none⟩) 1 1] 62)) ?_ (hK _ _ (h.step (i := 9) hlt (hk _) ⟨fun e => by omega, fun e => by omega, fun e => by omega, fun e => by omega, fun e => by omega, fun e => by omega, fun _ => ⟨w'.heap.size, bc, bm, bt, bf, rfl, Blk.new _ _ _, hbc.alloc _, hbm.alloc _, ((hk _).block bt (heap_lt hbt) (fun h => h)).trans hbt, ((hk _).block bf (heap_lt hbf) (fun h => h)).trans hbf, hne, nbc, nbm, nbt, nbf, h.fr.size⟩, fun e => by omega⟩ (fun e => by omega))))
      simp [execOp, e36, hnv, Result.andThen]
    · obtain rfl := Option.some.inj ho
      have l9 : listed.getD 9 false = true := hd { on := 9, ground := .data } (by simp) rfl
      obtain ⟨p, bc, bm, bt, bf, e37, hp, hbc, hbm, hbt, hbf, hne, nbc, nbm, nbt, nbf, np⟩ := (h.done 9 (by omega) l9).2.2.2.2.2.2.1 (.inl rfl)
      simp only [show nslot 9 = 37 from rfl] at e37
      refine wpOp_step rfl (fun K hK => op_value rfl (v := .pointer (some ⟨p, 0, none⟩)) (w' := w') ?_ (hK _ _ (h.step (i := 10) hlt (Fr.refl _ _) ⟨fun e => by omega, fun e => by omega, fun e => by omega, fun e => by omega, fun e => by omega, fun e => by omega, fun _ => ⟨p, bc, bm, bt, bf, rfl, hp, hbc, hbm, hbt, hbf, hne, nbc, nbm, nbt, nbf, np⟩, fun e => by omega⟩ (fun e => by omega))))
      simp [execOp, e37]
    · obtain rfl := Option.some.inj ho
      refine wpOp_step rfl (fun K hK => op_value rfl (v := .int .i64 0) (w' := w') ?_ (hK _ _ (h.step (i := 11) hlt (Fr.refl _ _) (by unfold NF; simp) (fun e => by omega))))
      simp [execOp, Act.eval]
  · intro listed a w' h hr
    have hall := all_listed (by kernel_rfl) h.len hr 12
    obtain ⟨p, bc, bm, bt, bf, e2, hp, hbc, hbm, hbt, hbf, hne, nbc, nbm, nbt, nbf, np⟩ := (h.done 10 (by omega) (hall 10 (by omega) (by decide))).2.2.2.2.2.2.1 (.inr rfl)
    have e3 := (h.done 11 (by omega) (hall 11 (by omega) (by decide))).2.2.2.2.2.2.2 rfl
    simp only [show nslot 10 = 2 from rfl, show nslot 11 = 3 from rfl] at e2 e3
    have hout : NewOut w (.returned (.tuple #[.pointer (some ⟨p, 0, none⟩), .int .i64 0])) w' := ⟨_, _, p, bc, bt, bf, bm, rfl, new_rep hp hbc hbm hbt hbf hne, h.fr, by rintro i (rfl | rfl | rfl | rfl | rfl) <;> assumption⟩
    have hdf := h.df
    have HOUT := Lib.hid hout; clear hout
    have HH := Lib.hid h; clear h
    clear hr hall hp hbc hbm hbt hbf hne
    go_wp2
    refine bodyPost_ret ?_ hdf HOUT.out
    have f2 : a.tmps[2]?.getD undef = .pointer (some ⟨p, 0, none⟩) := by simpa [Act.eval] using e2
    have f3 : a.tmps[3]?.getD undef = .int .i64 0 := by simpa [Act.eval] using e3
    have hrs := results_tmp2 (fn := Try.f8) (t := 2) (u := 3) rfl a.tmps Try.prog w'
    simpa [f2, f3] using hrs
end Go.Proofs.Ytpgjbbefgacjkaa
