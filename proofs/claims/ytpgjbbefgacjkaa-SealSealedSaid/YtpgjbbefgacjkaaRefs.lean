/- 'Refs' of package value: the references, from left to right. -/
import Derived.Test.YtpgjbbefgacjkaaOwn2
import Derived.Test.YtpgjbbefgacjkaaBase2
namespace Go.Proofs.Ytpgjbbefgacjkaa
open Go.RowKit
set_option linter.unusedSimpArgs false
set_option linter.unusedVariables false

mutual
def refsV : V → List Int
  | .mk k n s l r => (if k = 4 then [r] else []) ++ refsL l
def refsL : List V → List Int
  | [] => []
  | v :: l => refsV v ++ refsL l
end
theorem refsL_take (l : List V) (j : Nat) (h : j < l.length) : refsL (l.take (j + 1)) = refsL (l.take j) ++ refsV l[j] := by
  have key : ∀ (a b : List V), refsL (a ++ b) = refsL a ++ refsL b := by
    intro a b
    induction a with
    | nil => simp [refsL]
    | cons x a ih => simp [refsL, ih]
  rw [List.take_succ_eq_append_getElem h, key]
  simp [refsL]
theorem info_Ref : (Try.prog.info? 28).map (fun i => (i.zero, i.size, i.bytes)) = some (some (.int .i64 0), 1, 8) := by kernel_rfl
theorem info_int : (Try.prog.info? 3).map (fun i => (i.zero, i.size, i.bytes)) = some (some (.int .i64 0), 1, 8) := by kernel_rfl

/-- The box bo holds a row of the call's own that reads xs. -/
def Coll (w : World) (B bo : Nat) (sv : Value) (xs : List Int) : Prop := Blk w bo [sv] 40 ∧ OwnI w B 28 sv xs
theorem Coll.ne {w : World} {B bo : Nat} {sv : Value} {xs : List Int} (h : Coll w B bo sv xs) : sv.ownBlock ≠ some bo := by
  intro e
  rcases h.2.2 with ⟨rfl, _⟩ | ⟨g, cap, cur, rfl, _, hg, _⟩
  · cases e
  · have : g = bo := by simpa [Value.ownBlock] using e
    subst this
    have h1 := h.1
    unfold Blk at h1
    rw [hg] at h1
    injection h1 with h1
    injection h1 with _ h1
    cases h1
/-- What collecting leaves. -/
def CollOut (w : World) (B bo : Nat) (sv : Value) (xs : List Int) (e : Ending) (w' : World) : Prop :=
  ∃ sv', e = .returned (.bool true) ∧ Coll w' B bo sv' xs ∧ Fr (fun b => b = bo ∨ sv.ownBlock = some b) w w' ∧ (sv'.ownBlock = sv.ownBlock ∨ ∃ b, sv'.ownBlock = some b ∧ w.heap.size ≤ b)
theorem Coll.keep {S : Nat → Prop} {w w' : World} {B bo : Nat} {sv : Value} {xs : List Int} (h : Coll w B bo sv xs) (k : Fr S w w') (h1 : ¬ S bo) (h2 : ∀ b, sv.ownBlock = some b → ¬ S b) : Coll w' B bo sv xs :=
  ⟨h.1.keep k h1, h.2.keep k h2⟩
set_option maxRecDepth 100000 in
set_option maxHeartbeats 1000000 in
theorem refs1_no (B bo : Nat) (pl : Value) (v : V) (A : Option Addr) (c : Nat) (sv : Value) (xs : List Int) (w : World) (hk : (v.k == 4) = false) (hc : Coll w B bo sv xs) :
    Calls Try.prog 83 #[pl, v.agg A c, .pointer (some ⟨bo, 0, none⟩)] w (CollOut w B bo sv xs) := by
  have HC := Lib.hid hc; clear hc
  go_enter Try.func83, Try.ntmps83
  go_wp2
  go_ret
  exact ⟨sv, rfl, HC.out.keep ((Fr.refl none_ w).alloc _) (fun h => h) (fun _ _ h => h), (Fr.refl _ w).alloc _, .inl rfl⟩
theorem coll_step {w w1 : World} {B bo g cap : Nat} {sv : Value} {xs : List Int} {r : Int} (o : Obj) (hc : Coll w B bo sv xs) (hown : OwnI w1 B 28 (.slice (some ⟨g, 0, none⟩) (xs.length + 1) cap) (xs ++ [r])) (hg : (w.alloc o).grownBy w1 sv.ownBlock) (hat : sv.ownBlock = some g ∨ (w.alloc o).heap.size ≤ g) :
    Coll (w1.setCell ⟨bo, 0, none⟩ (.slice (some ⟨g, 0, none⟩) (xs.length + 1) cap)) B bo (.slice (some ⟨g, 0, none⟩) (xs.length + 1) cap) (xs ++ [r]) ∧ Fr (fun b => b = bo ∨ sv.ownBlock = some b) w (w1.setCell ⟨bo, 0, none⟩ (.slice (some ⟨g, 0, none⟩) (xs.length + 1) cap)) ∧
      ((Value.slice (some ⟨g, 0, none⟩) (xs.length + 1) cap).ownBlock = sv.ownBlock ∨ ∃ b, (Value.slice (some ⟨g, 0, none⟩) (xs.length + 1) cap).ownBlock = some b ∧ w.heap.size ≤ b) ∧ Blk w1 bo [sv] 40 := by
  have hf := grownBy_fr hg
  have hb1 : Blk w1 bo [sv] 40 := (hc.1.alloc o).keep hf hc.ne
  have hne : g ≠ bo := by
    rcases hat with h | h
    · intro e; exact hc.ne (e ▸ h)
    · have := hc.1.lt
      rw [World.size_alloc] at h
      omega
  refine ⟨⟨hb1.set 0 _, hown.keep (Fr.set1 w1 bo 0 _) (fun b hb e => ?_)⟩, ?_, ?_, hb1⟩
  · have : g = b := by simpa [Value.ownBlock] using hb
    omega
  · refine Fr.setCell (p := ⟨bo, 0, none⟩) ?_ (fun _ => .inl rfl) _
    exact (((Fr.refl _ w).alloc o).trans' hf (fun i _ h => .inr h))
  · rcases hat with h | h
    · exact .inl h.symm
    · refine .inr ⟨g, rfl, ?_⟩
      rw [World.size_alloc] at h
      omega
set_option maxRecDepth 100000 in
set_option maxHeartbeats 1000000 in
theorem refs1_yes (B bo : Nat) (pl : Value) (v : V) (A : Option Addr) (c : Nat) (sv : Value) (xs : List Int) (w : World) (hk : (v.k == 4) = true) (hc : Coll w B bo sv xs) (hB : B ≤ w.heap.size) (hl : xs.length + 1 ≤ 17592186044416) :
    Calls Try.prog 83 #[pl, v.agg A c, .pointer (some ⟨bo, 0, none⟩)] w (CollOut w B bo sv (xs ++ [v.r])) := by
  have c0 : w.cell? ⟨bo, 0, none⟩ = some sv := hc.1.cell 0
  have hbl := hc.1.lt
  have HC := Lib.hid hc; clear hc
  go_enter Try.func83, Try.ntmps83
  go_wp2_with (refine wpList_stop (.call { callee := .builtin .append, args := #[.tmp 9, .tmp 12], argTypes := #[40, 40] }) rfl ?_)
  refine Stop.mk ?_
  refine wpList_append1 (W := w.alloc (.cells #[.int .u8 v.k, .int .i64 v.n, .string v.s, .slice A v.l.length c, .int .i64 v.r] 37)) B rfl (.tmp 9) (.tmp 12) 40 28 rfl Try.underlying40 info_Ref sv xs v.r ?e1 ?e2 (HC.out.2.keep ((Fr.refl none_ w).alloc _) (fun _ _ h => h)) (by simp; omega) hl ?_
  case e1 => rfl
  case e2 => rw [World.size_alloc]; rfl
  intro g cap w1 hown hg hat
  obtain ⟨hc1, hf1, ho1, hb1⟩ := coll_step (.cells #[.int .u8 v.k, .int .i64 v.n, .string v.s, .slice A v.l.length c, .int .i64 v.r] 37) HC.out hown hg hat
  have x0 : w1.cell? ⟨bo, 0, none⟩ = some sv := hb1.cell 0
  have xf : w1.frozen? ⟨bo, 0, none⟩ = false := hb1.frozen 0
  have HC1 := Lib.hid hc1; clear hc1
  have HF1 := Lib.hid hf1; clear hf1
  have HO1 := Lib.hid ho1; clear ho1
  clear hown hg hat hb1 c0
  go_wp2
  go_ret
  exact ⟨_, rfl, HC1.out, HF1.out, HO1.out⟩
theorem refs1_any (B bo : Nat) (pl : Value) (v : V) (A : Option Addr) (c : Nat) (sv : Value) (xs : List Int) (w : World) (hc : Coll w B bo sv xs) (hB : B ≤ w.heap.size) (hl : xs.length + 1 ≤ 17592186044416) :
    Calls Try.prog 83 #[pl, v.agg A c, .pointer (some ⟨bo, 0, none⟩)] w (CollOut w B bo sv (xs ++ if v.k = 4 then [v.r] else [])) := by
  by_cases hk : v.k = 4
  · rw [if_pos hk]
    exact refs1_yes B bo pl v A c sv xs w (by rw [hk]; rfl) hc hB hl
  · rw [if_neg hk, List.append_nil]
    exact refs1_no B bo pl v A c sv xs w (by simpa using hk) hc

/-! ### walk -/
/-- A place: nothing, or a row of whole numbers that nobody writes. -/
def PlaceOk (w : World) (p : Value) (n : Nat) : Prop := ∃ ps, w.ownsRow 0 3 1 p n ps ∧ n ≤ 1000000
theorem PlaceOk.keep {S : Nat → Prop} {w w' : World} {p : Value} {n : Nat} (h : PlaceOk w p n) (k : Fr S w w') (hn : ∀ b c fr, w.heap[b]? = some (.cells c 3 fr) → ¬ S b) : PlaceOk w' p n := by
  obtain ⟨ps, ⟨h1, h2⟩, h3⟩ := h
  refine ⟨ps, ⟨h1, ?_⟩, h3⟩
  rcases h2 with h2 | ⟨g, cap, cur, rfl, hb, hg, r⟩
  · exact .inl h2
  · exact .inr ⟨g, cap, cur, rfl, hb, (k.block g (heap_lt hg) (hn g _ _ hg)).trans hg, r⟩
theorem Coll.notInt {w : World} {B bo : Nat} {sv : Value} {xs : List Int} (h : Coll w B bo sv xs) : ∀ b c fr, w.heap[b]? = some (.cells c 3 fr) → ¬ (b = bo ∨ sv.ownBlock = some b) := by
  rintro b c fr hb (e | e)
  · subst e
    have h1 := h.1
    unfold Blk at h1
    rw [hb] at h1
    injection h1 with h1
    injection h1 with _ h1
    cases h1
  · rcases h.2.2 with ⟨rfl, _⟩ | ⟨g, cap, cur, rfl, _, hg, _⟩
    · cases e
    · have : g = b := by simpa [Value.ownBlock] using e
      subst this
      rw [hb] at hg
      injection hg with hg
      injection hg with _ hg
      cases hg
/-- What Clip hands back can be read, and has no room. -/
theorem PlaceOk.clip {w : World} {p : Value} {n : Nat} (h : PlaceOk w p n) : ∃ (ao : Option Addr) (olds : List Value) (cap : Nat), p = .slice ao n cap ∧ (ao = none → n = 0) ∧ olds.length = n * 1 ∧ (∀ b, ao = some b → ∀ j u, olds[j]? = some u → w.cell? (b.add j) = some u) ∧ n ≤ cap ∧ n ≤ 1000000 := by
  obtain ⟨ps, ⟨h1, h2⟩, h3⟩ := h
  rcases h2 with ⟨rfl, h0⟩ | ⟨g, cap, cur, rfl, hb, hg, hnc, hm, hs, ht⟩
  · refine ⟨none, ps, 0, by rw [h0], fun _ => h0, h1, ?_, by omega, h3⟩
    intro b hb; cases hb
  · refine ⟨some ⟨g, 0, none⟩, ps, cap, rfl, (by intro h; cases h), h1, ?_, hnc, h3⟩
    intro b hb j u hu
    injection hb with hb
    subst hb
    rw [Addr.add_mid, Nat.zero_add, cell_of_row w g j cur 3 (0, 0) hg]
    rw [← ht, List.getElem?_take] at hu
    split at hu
    · simpa using hu
    · cases hu
set_option maxRecDepth 100000 in
set_option maxHeartbeats 1000000 in
theorem clip_any (ao : Option Addr) (n cap : Nat) (w : World) (hn : n ≤ cap) (hn2 : (n : Int) ≤ 1000000) : Calls Try.prog 98 #[.slice ao n cap] w fun e w' => e = .returned (.slice ao n n) ∧ w' = w := by
  go_enter Try.func98, Try.ntmps98
  go_wp2
  go_ret
  exact ⟨rfl, rfl⟩
theorem takeVs_at : ∀ (l : List V) (p m q j : Nat) (hj : j < l.length), takeVs l p m = some q → ∃ p' q', takeV l[j] p' m = some q'
  | v :: l, p, m, q, 0, _, h => by
    unfold takeVs at h
    obtain ⟨p1, h1, _⟩ := Option.bind_eq_some_iff.1 h
    exact ⟨p, p1, h1⟩
  | v :: l, p, m, q, j + 1, hj, h => by
    unfold takeVs at h
    obtain ⟨p1, _, h2⟩ := Option.bind_eq_some_iff.1 h
    exact takeVs_at l p1 m q j (by simpa using hj) h2
theorem refsL_at (l : List V) (j : Nat) (hj : j < l.length) : (refsL (l.take j)).length + (refsV l[j]).length ≤ (refsL l).length := by
  have key : ∀ (a b : List V), refsL (a ++ b) = refsL a ++ refsL b := by
    intro a b
    induction a with
    | nil => simp [refsL]
    | cons x a ih => simp [refsL, ih]
  have h := key (l.take (j + 1)) (l.drop (j + 1))
  rw [List.take_append_drop, refsL_take l j hj] at h
  rw [h]
  simp
theorem refsV_eq (v : V) : refsV v = (if v.k = 4 then [v.r] else []) ++ refsL v.l := by cases v; unfold refsV; rfl
def WalkAll (l : List V) : Prop := ∀ x, x ∈ l → ∀ (D : Nat → Prop) (z : Prop) (B bo p m q pn : Nat) (pl : Value) (A : Option Addr) (c : Nat) (sv : Value) (xs : List Int) (w : World), takeV x p m = some q → pn + m ≤ 1000 →
  RV w D z x (x.cells A c) → (∀ b, D b → b < B) → B ≤ w.heap.size → B ≤ bo → Coll w B bo sv xs → PlaceOk w pl pn → xs.length + (refsV x).length ≤ 17592186044415 →
  Calls Try.prog 82 #[x.agg A c, pl, .func (.func 83) #[] #[.pointer (some ⟨bo, 0, none⟩)]] w (CollOut w B bo sv (xs ++ refsV x))
def WalkRel (w : World) (B bo : Nat) (sv : Value) (xs : List Int) (l : List V) (k : Nat) (i : Value) (wr : World) : Prop :=
  ∃ (j : Nat) (sv' : Value), j + k = l.length ∧ i = .int .i64 (j : Int) ∧ Coll wr B bo sv' (xs ++ refsL (l.take j)) ∧ Fr (fun b => b = bo ∨ sv.ownBlock = some b) w wr ∧ (sv'.ownBlock = sv.ownBlock ∨ ∃ b, sv'.ownBlock = some b ∧ w.heap.size ≤ b)
theorem Coll.lt {w : World} {B bo : Nat} {sv : Value} {xs : List Int} (h : Coll w B bo sv xs) : ∀ b, (b = bo ∨ sv.ownBlock = some b) → b < w.heap.size := by
  rintro b (rfl | e)
  · exact h.1.lt
  · exact (h.2.lt b e).2
theorem Coll.ge {w : World} {B bo : Nat} {sv : Value} {xs : List Int} (h : Coll w B bo sv xs) (hb : B ≤ bo) : ∀ b, (b = bo ∨ sv.ownBlock = some b) → B ≤ b := by
  rintro b (rfl | e)
  · exact hb
  · exact (h.2.lt b e).1
/-- Two stretches of collecting, one behind the other. -/
theorem coll_trans {w wr w' w2 : World} {bo : Nat} {sv sv2 sv3 : Value} (h1 : Fr (fun b => b = bo ∨ sv.ownBlock = some b) w wr) (h2 : Fr none_ wr w') (h3 : Fr (fun b => b = bo ∨ sv2.ownBlock = some b) w' w2)
    (o2 : sv2.ownBlock = sv.ownBlock ∨ ∃ b, sv2.ownBlock = some b ∧ w.heap.size ≤ b) (o3 : sv3.ownBlock = sv2.ownBlock ∨ ∃ b, sv3.ownBlock = some b ∧ w'.heap.size ≤ b) :
    Fr (fun b => b = bo ∨ sv.ownBlock = some b) w w2 ∧ (sv3.ownBlock = sv.ownBlock ∨ ∃ b, sv3.ownBlock = some b ∧ w.heap.size ≤ b) := by
  have hs1 := h1.size
  have hs2 := h2.size
  refine ⟨(h1.trans' h2 (fun i _ h => h.elim)).trans' h3 ?_, ?_⟩
  · rintro i hi (e | e)
    · exact .inl e
    · rcases o2 with o2 | ⟨b, o2, hb⟩
      · exact .inr (o2 ▸ e)
      · rw [o2] at e
        injection e with e
        omega
  · rcases o3 with o3 | ⟨b, o3, hb⟩
    · rw [o3]; exact o2
    · exact .inr ⟨b, o3, by omega⟩
set_option maxRecDepth 100000 in
set_option maxHeartbeats 2000000 in
theorem walk_w (D : Nat → Prop) (z : Prop) (B bo p m q pn : Nat) (pl : Value) (v : V) (A : Option Addr) (c : Nat) (sv : Value) (xs : List Int) (w : World) (htk : takeVs v.l p m = some q) (hpm0 : 0 < v.l.length → pn + 1 + m ≤ 1000)
    (hx : WalkAll v.l) (hv : RV w D z v (v.cells A c)) (hD : ∀ b, D b → b < B) (hB : B ≤ w.heap.size) (hbo : B ≤ bo) (hc : Coll w B bo sv xs) (hp : PlaceOk w pl pn) (hl : xs.length + (refsV v).length ≤ 17592186044415) :
    Calls Try.prog 82 #[v.agg A c, pl, .func (.func 83) #[] #[.pointer (some ⟨bo, 0, none⟩)]] w (CollOut w B bo sv (xs ++ refsV v)) := by
  have hlb := hv.bounds.2.2.2.2
  have HX := Lib.hid hx; clear hx
  have HV := Lib.hid hv; clear hv
  have HD := Lib.hid hD; clear hD
  have HC := Lib.hid hc; clear hc
  have HP := Lib.hid hp; clear hp
  have HT := Lib.hid htk; clear htk
  have HL := Lib.hid hl; clear hl
  have hbl : bo < w.heap.size := HC.out.1.lt
  go_enter Try.func82, Try.ntmps82
  go_wp2_with fail
  refine (refs1_any B bo pl v A c sv xs _ (HC.out.keep ((Fr.refl none_ w).alloc _) (fun h => h) (fun _ _ h => h)) (by simp; omega) (by have := HL.out; omega)).mono ?_
  rintro e w1 ⟨sv1, rfl, hc1, hf1, ho1⟩
  have hbx := (Blk.new w [.int .u8 v.k, .int .i64 v.n, .string v.s, .slice A v.l.length c, .int .i64 v.r] 37).keep hf1 (fun h => absurd (HC.out.lt _ h) (by omega))
  have x3 : w1.cell? ⟨w.heap.size, 3, none⟩ = some (.slice A v.l.length c) := hbx.cell 3
  have HC1 := Lib.hid hc1; clear hc1
  have HF1 := Lib.hid hf1; clear hf1
  have HO1 := Lib.hid ho1; clear ho1
  clear hbx
  go_wp2_with fail
  go_loopg [17] (v.l.length) (fun k' i wr => WalkRel w B bo sv (xs ++ if v.k = 4 then [v.r] else []) v.l k' i wr)
  case atStart =>
    obtain ⟨h1, h2⟩ := coll_trans (sv3 := sv1) (Fr.refl _ w) ((Fr.refl none_ w).alloc (.cells #[.int .u8 v.k, .int .i64 v.n, .string v.s, .slice A v.l.length c, .int .i64 v.r] 37)) HF1.out (.inl rfl) HO1.out
    exact ⟨0, sv1, by omega, rfl, by simpa [refsL] using HC1.out, h1, h2⟩
  case round =>
    obtain ⟨j, sv2, hjk, rfl, hc2, hf2, ho2⟩ := hrel
    have HC2 := Lib.hid hc2; clear hc2
    have HF2 := Lib.hid hf2; clear hf2
    have HO2 := Lib.hid ho2; clear ho2
    by_cases hlt : j < v.l.length
    · have hs' := HV.out.list.1.fr HF2.out (fun b hb e => absurd (HC.out.ge hbo b e) (by have := HD.out b hb; omega))
      obtain ⟨b1, o1, A1, c1', he, hd1, e0, e1, e2, e3, e4, hv1⟩ := hs'.elem hlt
      subst he
      have HV1 := Lib.hid hv1; clear hv1
      clear hs' hd1
      have hjb : (j : Int) < v.l.length := by omega
      have hj2 : (j : Int) ≤ 2199023255552 := by omega
      have hpm := hpm0 (by omega)
      obtain ⟨p2, q2, htk2⟩ := takeVs_at v.l p m q j hlt HT.out
      have hpl := HP.out.keep HF2.out HC.out.notInt
      obtain ⟨ao, olds, cap, rfl, hao, hol, hor, hnc, hpn⟩ := hpl.clip
      obtain ⟨i0, hi, hz0, hz1, hz2⟩ := info_parts info_int
      have hpn2 : (pn : Int) ≤ 1000000 := by omega
      have hlen : ((xs ++ if v.k = 4 then [v.r] else []) ++ refsL (v.l.take j)).length + (refsV v.l[j]).length ≤ 17592186044415 := by
        have h1 := refsL_at v.l j hlt
        have h2 := HL.out
        rw [refsV_eq v] at h2
        simp only [List.length_append] at h2 ⊢
        omega
      have HLEN := Lib.hid hlen; clear hlen
      have HTK := Lib.hid htk2; clear htk2
      have HOR := Lib.hid hor; clear hor
      have HAO := Lib.hid hao; clear hao
      have HI := Lib.hid hi; clear hi
      have HZ0 := Lib.hid hz0; clear hz0
      have HZ1 := Lib.hid hz1; clear hz1
      have HZ2 := Lib.hid hz2; clear hz2
      have HOL := Lib.hid hol; clear hol
      clear hpl
      go_wp2
      go_region_law (first
        | (refine step_call' rfl (.func 98) _ _ 98 _ #[] #[.slice ao pn cap] rfl rfl Try.func98 (by kernel_rfl) rfl (by simp [Act.eval, Act.put]) (clip_any ao pn cap _ (by omega) (by omega)) ?_; rintro e w' ⟨rfl, rfl⟩; refine ⟨_, rfl, ?_⟩)
        | (refine step_append_grows rfl (.tmp 24) (.tmp 26) 43 rfl 3 i0 (.int .i64 0) 1 8 Try.underlying43 HI.out HZ0.out HZ1.out HZ2.out rfl (by omega) ao pn pn olds (by simp [Act.eval, Act.put]) (fun h => by have := HAO.out h; omega) HOL.out (fun b hb i u hu => cell_later (w := wr) (Fr.below (by repeat (first | exact Fr.refl _ _ | refine Fr.alloc ?_ _ | refine Fr.drew ?_))) (HOR.out b hb i u hu)) ⟨_, 0, none⟩ 1 1 [.int .i64 j] (by simp [Act.eval, Act.put]; rfl) rfl (by intro i u hu; obtain ⟨rfl, rfl⟩ := single_get hu; go_simp) (by intro u hu; rw [List.mem_singleton.1 hu]; rfl) (by omega) (by unfold maxLen; omega) (by omega) ?_; intro v' w' hown hg
           have hfg : Fr none_ wr w' := Fr.grownNone (by repeat (first | exact Fr.refl _ _ | refine Fr.alloc ?_ _ | refine Fr.drew ?_)) hg
           have hbb : Blk w' wr.heap.size (v.l[j].cells A1 c1') 37 := Blk.keep (Blk.new wr (v.l[j].cells A1 c1') 37) (Fr.grownNone (S := none_) (by repeat (first | exact Fr.refl _ _ | refine Fr.alloc ?_ _ | refine Fr.drew ?_)) hg) (fun h => h)
           have y0 : w'.cell? ⟨wr.heap.size, 0, none⟩ = some (.int .u8 v.l[j].k) := hbb.cell 0
           have y1 : w'.cell? ⟨wr.heap.size, 1, none⟩ = some (.int .i64 v.l[j].n) := hbb.cell 1
           have y2 : w'.cell? ⟨wr.heap.size, 2, none⟩ = some (.string v.l[j].s) := hbb.cell 2
           have y3 : w'.cell? ⟨wr.heap.size, 3, none⟩ = some (.slice A1 v.l[j].l.length c1') := hbb.cell 3
           have y4 : w'.cell? ⟨wr.heap.size, 4, none⟩ = some (.int .i64 v.l[j].r) := hbb.cell 4
           have HFG := Lib.hid hfg; clear hfg hg hbb
           have HOWN := Lib.hid hown; clear hown)
        | (refine step_call' rfl (.func 82) _ _ 82 _ #[] #[v.l[j].agg A1 c1', _, .func (.func 83) #[] #[.pointer (some ⟨bo, 0, none⟩)]] rfl rfl Try.func82 (by kernel_rfl) rfl (by simp [Act.eval, Act.put]) (HX.out v.l[j] (List.getElem_mem _) D z B bo p2 m q2 (pn + 1) _ A1 c1' sv2 _ _ HTK.out (by omega) (HV1.out.fr HFG.out (fun _ _ h => h)) HD.out (by have := HFG.out.size; have := HF2.out.size; omega) hbo (HC2.out.keep HFG.out (fun h => h) (fun _ _ h => h)) ⟨_, ownsRow_base HOWN.out (Nat.zero_le _), by omega⟩ HLEN.out) ?_; rintro e w2 ⟨sv3, rfl, hc3, hf3, ho3⟩; refine ⟨_, rfl, ?_⟩
           have HC3 := Lib.hid hc3; clear hc3
           have HF3 := Lib.hid hf3; clear hf3
           have HO3 := Lib.hid ho3; clear ho3))
      all_goals go_wp2
      all_goals
        go_roundg (gk - 1)
        case measure => omega
        case rel =>
          obtain ⟨h1, h2⟩ := coll_trans HF2.out HFG.out HF3.out HO2.out HO3.out
          refine ⟨j + 1, sv3, by omega, by go_num, ?_, h1, h2⟩
          rw [refsL_take v.l j hlt, ← List.append_assoc]
          exact HC3.out
    · go_wp2
      go_ret
      have h := HC2.out
      rw [List.take_of_length_le (by omega), List.append_assoc, ← refsV_eq v] at h
      exact ⟨sv2, rfl, h, HF2.out, HO2.out⟩
theorem takeV_list (v : V) (p m q : Nat) (h : takeV v p m = some q) : v.l = [] ∨ ∃ p' m' q', m = m' + 1 ∧ takeVs v.l p' m' = some q' := by
  cases v with
  | mk k n s l r =>
    cases p with
    | zero => rw [take_zero] at h; cases h
    | succ p =>
      unfold takeV at h
      simp only at h
      repeat' (split at h)
      all_goals first
        | (rename_i hc; exact .inl (List.eq_nil_of_length_eq_zero hc.2.2.2))
        | (rename_i hc; exact .inl (List.eq_nil_of_length_eq_zero hc.2.2))
        | cases h
        | (obtain ⟨p1, h1, _⟩ := Option.bind_eq_some_iff.1 h
           exact .inr ⟨_, _, _, rfl, h1⟩)
/-- **The walk that collects the references, at every value that may be.** -/
theorem walk_any (v : V) : WalkAll [v] := by
  induction v using V.ind with
  | h k n s l r ih =>
    intro x hx D z B bo p m q pn pl A c sv xs w htk hpm hv hD hB hbo hc hp hl
    obtain rfl : x = .mk k n s l r := by simpa using hx
    have hih : WalkAll l := fun y hy => ih y hy y (List.mem_singleton_self y)
    rcases takeV_list _ p m q htk with he | ⟨p', m', q', rfl, ht⟩
    · have he' : l = [] := he
      subst he'
      have := hp
      obtain ⟨ps, h1, h2⟩ := hp
      refine walk_w D z B bo 0 0 0 pn pl _ A c sv xs w (by unfold takeVs; rfl) (fun h => by simp [V.l] at h) hih hv hD hB hbo hc ⟨ps, h1, h2⟩ hl
    · exact walk_w D z B bo p' m' q' pn pl _ A c sv xs w ht (fun _ => by omega) hih hv hD hB hbo hc hp hl
/-! ### Refs -/
/-- The references handed back: a row of the call's own. -/
def RefsOut (w : World) (xs : List Int) (e : Ending) (w' : World) : Prop := ∃ sv, e = .returned sv ∧ OwnI w' w.heap.size 28 sv xs ∧ Fr none_ w w'
theorem refsVs_le (l : List V) (h : ∀ x, x ∈ l → ∀ p m q, takeV x p m = some q → (refsV x).length + q ≤ p) : ∀ p m q, takeVs l p m = some q → (refsL l).length + q ≤ p := by
  induction l with
  | nil => intro p m q hq; unfold takeVs at hq; injection hq with hq; simp [refsL]; omega
  | cons x l ih =>
    intro p m q hq
    unfold takeVs at hq
    obtain ⟨p1, h1, h2⟩ := Option.bind_eq_some_iff.1 hq
    have := h x (List.mem_cons_self ..) p m p1 h1
    have := ih (fun y hy => h y (List.mem_cons_of_mem _ hy)) p1 m q h2
    simp only [refsL, List.length_append]
    omega
theorem refsV_le (v : V) : ∀ p m q, takeV v p m = some q → (refsV v).length + q ≤ p := by
  induction v using V.ind with
  | h k n s l r ih =>
    intro p m q hq
    cases p with
    | zero => rw [take_zero] at hq; cases hq
    | succ p =>
      have hl := refsVs_le l ih
      have he : l.length = 0 → refsL l = [] := fun h => by rw [List.eq_nil_of_length_eq_zero h]; rfl
      unfold refsV
      unfold takeV at hq
      simp only at hq
      repeat' (split at hq)
      all_goals first
        | (injection hq with hq
           rw [he (by omega)]
           split
           all_goals simp
           all_goals omega)
        | cases hq
        | (obtain ⟨p1, h1, h2⟩ := Option.bind_eq_some_iff.1 hq
           have := hl _ _ _ h1
           rw [if_neg (by omega)]
           first
             | (injection h2 with h2; simp; omega)
             | cases h2)
theorem refsV_512 (v : V) (h : v.may = true) : (refsV v).length ≤ 512 := by
  unfold V.may at h
  obtain ⟨q, hq⟩ := Option.isSome_iff_exists.1 h
  have := refsV_le v 512 16 q hq
  omega
def V.refs (v : V) : List Int := if v.may = true then refsV v else []
set_option maxRecDepth 100000 in
set_option maxHeartbeats 1000000 in
/-- **'Refs' of package value.** -/
theorem Refs_any (D : Nat → Prop) (z : Prop) (v : V) (A : Option Addr) (c : Nat) (w : World) (hv : RV w D z v (v.cells A c)) (hD : ∀ b, D b → b < w.heap.size) :
    Calls Try.prog 54 #[v.agg A c] w (RefsOut w v.refs) := by
  have HV := Lib.hid hv; clear hv
  have HD := Lib.hid hD; clear hD
  have hmf : ∀ (fn : Fn) (first cap : Array Value) (w : World), (Instr.makeFunc fn first cap).run Try.prog w = .ok (.func fn first cap) w := fun _ _ _ _ => rfl
  go_enter Try.func54, Try.ntmps54
  go_wp2_with fail
  refine (may_any D z v A c _ (HV.out.fr (((Fr.refl none_ w).alloc _).alloc _) (fun _ _ h => h)) (fun b hd => by have := HD.out b hd; simp; omega)).mono ?_
  rintro e w1 ⟨rfl, hf⟩
  have hb0 := ((Blk.new w [.int .u8 v.k, .int .i64 v.n, .string v.s, .slice A v.l.length c, .int .i64 v.r] 37).alloc (.cells #[.slice none 0 0] 40)).keep hf (fun h => h)
  have hb1 := Blk.new (w.alloc (.cells #[.int .u8 v.k, .int .i64 v.n, .string v.s, .slice A v.l.length c, .int .i64 v.r] 37)) [.slice none 0 0] 40
  rw [World.size_alloc] at hb1
  have hb2 := hb1.keep hf (fun h => h)
  have x0 : w1.cell? ⟨w.heap.size, 0, none⟩ = some (.int .u8 v.k) := hb0.cell 0
  have x1 : w1.cell? ⟨w.heap.size, 1, none⟩ = some (.int .i64 v.n) := hb0.cell 1
  have x2 : w1.cell? ⟨w.heap.size, 2, none⟩ = some (.string v.s) := hb0.cell 2
  have x3 : w1.cell? ⟨w.heap.size, 3, none⟩ = some (.slice A v.l.length c) := hb0.cell 3
  have x4 : w1.cell? ⟨w.heap.size, 4, none⟩ = some (.int .i64 v.r) := hb0.cell 4
  have x5 : w1.cell? ⟨w.heap.size + 1, 0, none⟩ = some (.slice none 0 0) := hb2.cell 0
  have hfw := ((((Fr.refl none_ w).alloc (.cells #[.int .u8 v.k, .int .i64 v.n, .string v.s, .slice A v.l.length c, .int .i64 v.r] 37)).alloc (.cells #[.slice none 0 0] 40)).trans hf)
  have HFW := Lib.hid hfw; clear hfw hf
  have HB2 := Lib.hid hb2; clear hb2 hb1 hb0
  cases hm : v.may with
  | false =>
    have HM := Lib.hid hm; clear hm
    go_wp2
    go_ret
    refine ⟨.slice none 0 0, rfl, ?_, HFW.out⟩
    unfold V.refs
    rw [HM.out]
    exact World.ownsRow_nil _ _ _ _
  | true =>
    have hr := refsV_512 v hm
    have htk := hm
    unfold V.may at htk
    obtain ⟨q, hq⟩ := Option.isSome_iff_exists.1 htk
    have HM := Lib.hid hm; clear hm
    have HQ := Lib.hid hq; clear hq htk
    go_wp2_with fail
    refine (walk_any v v (List.mem_singleton_self v) D z w.heap.size (w.heap.size + 1) 512 16 q 0 _ A c (.slice none 0 0) [] w1 HQ.out (by omega) (HV.out.fr HFW.out (fun _ _ h => h)) HD.out HFW.out.size (by omega) ⟨HB2.out, World.ownsRow_nil _ _ _ _⟩ ⟨[], World.ownsRow_nil _ _ _ _, by omega⟩ (by simp; omega)).mono ?_
    rintro e w2 ⟨sv, rfl, hc, hf2, ho⟩
    have y0 : w2.cell? ⟨w.heap.size + 1, 0, none⟩ = some sv := hc.1.cell 0
    have HC := Lib.hid hc; clear hc
    have HF2 := Lib.hid hf2; clear hf2 ho
    go_wp2
    go_ret
    refine ⟨sv, rfl, ?_, HFW.out.trans' HF2.out ?_⟩
    · unfold V.refs
      rw [HM.out, if_pos rfl]
      have := HC.out.2
      rwa [List.nil_append] at this
    · rintro i hi (e | e)
      · omega
      · cases e
end Go.Proofs.Ytpgjbbefgacjkaa
