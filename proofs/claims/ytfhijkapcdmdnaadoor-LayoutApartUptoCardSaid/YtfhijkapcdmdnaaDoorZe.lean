/- Members of a struct or a union share no bit. -/
import Derived.Test.YtfhijkapcdmdnaaDoorZd
import Derived.Test.YtfhijkapcdmdnaaDoorHd
import Derived.Test.YtfhijkapcdmdnaaDoorAmW
namespace Go.Proofs.YtfhijkapcdmdnaaDoor
open Go.AM
set_option maxRecDepth 20000
set_option maxHeartbeats 4000000
set_option linter.unusedSimpArgs false
set_option linter.unusedVariables false
attribute [local congr] andF_cg onF_cg bthen_cg bkeep_cg bcond_cg guardV_cg putF_cg guardF_cg ite_cg stepsF_cg
attribute [local simp] Brun_skip Brun_exit Brun_ret Brun_seq Brun_cond Brun_block Brun_region bthen_normal bthen_ret bthen_exit bblock_normal bblock_ret bblock_exit bkeep_some andF_some onF_some onF_none guardF_none guardF_some guardV_tup putF_some putF_none stepsF_nil stepsF_cons upd_apply ofL_cons ofL_nil bown_normal bown_ret banswer_normal banswer_ret aresults ares List.replicate stepF_call stepF_callD stepF_move stepF_pick stepF_alloc stepF_allocV stepF_box stepF_boxV stepF_build stepF_buildSlice stepF_buildSliceV stepF_load stepF_store stepF_nilCheck stepF_bin stepF_eq stepF_un stepF_conv stepF_strId strIdV_str strIdV_int stepF_toStr stepF_toBytes stepF_fn stepF_mkSlice stepF_slice stepF_strSlice stepF_fieldAddr stepF_field stepF_idxAddr stepF_idxArr stepF_index stepF_strIndex stepF_extract stepF_len0 stepF_len1 stepF_min stepF_max stepF_append stepF_appendF appF_none appF_row stepF_mkMap stepF_mkIface stepF_lookup stepF_mapUpdate stepF_ext aext_idx aext_count aext_same cellsF newF abin_add abin_sub abin_mul abin_quo abin_rem abin_eql abin_neq abin_lss abin_leq abin_gtr abin_geq abin_and abin_or abin_xor abin_shl abin_shr abin_seql abin_sneq aun_not aun_neg aeq_bool aeq_agg eqCells_nil eqCells_int eqCells_bool eqCells_str cellsOf_agg cellsOf_int cellsOf_bool cellsOf_str cellsOf_is cellsOf_ms cellsOf_fn cellsOf_nilp cellsOf_mp cellsOf_mm cellsOf_nilm cellsOf_nili cellsOf_ifc cellsOf_ip cget_one cget_agg ev_t ev_c fillp_nil fillp_cons isSc_int isSc_bool isSc_str isSc_is isSc_ms isSc_fn isSc_mm isSc_mp isSc_ip isSc_nilp isSc_nilm isSc_nili isSc_nilf isSc_ifc splice chunk strip strip.stripL imm imm.immL Areify_int Areify_bool Areify_str Areify_is Areify_nilp Areify_tup Areify_agg AreifyL andF_chi andF_ch onF_chi onF_ch bthen_ch bthen_chi bblock_ch bblock_chi bkeep_ch bkeep_chi bown_ch bown_chi banswer_ch banswer_chi isSome_ch bcond_ch guardV_ch1 guardV_ch0 chF_true chF_false chF_not
attribute [local simp ↓] andF_some andF_chi andF_ch onF_some onF_none onF_chi onF_ch bthen_normal bthen_ret bthen_exit bthen_ch bthen_chi bblock_normal bblock_ret bblock_exit bblock_ch bblock_chi bkeep_some bkeep_ch bkeep_chi bown_normal bown_ret bown_ch bown_chi banswer_normal banswer_ret banswer_ch banswer_chi bcond_ch guardV_ch1 guardV_ch0 guardV_tup guardF_none guardF_some putF_some putF_none stepsF_nil stepsF_cons chF_true chF_false Brun_seq Brun_cond Brun_block Brun_region Brun_skip Brun_ret Brun_exit stepF_call stepF_callD stepF_move stepF_pick stepF_alloc stepF_allocV stepF_box stepF_boxV stepF_build stepF_buildSlice stepF_buildSliceV stepF_load stepF_store stepF_nilCheck stepF_bin stepF_eq stepF_un stepF_conv stepF_strId stepF_toStr stepF_toBytes stepF_fn stepF_mkSlice stepF_slice stepF_strSlice stepF_fieldAddr stepF_field stepF_idxAddr stepF_idxArr stepF_index stepF_strIndex stepF_extract stepF_len0 stepF_len1 stepF_min stepF_max stepF_append stepF_appendF stepF_mkMap stepF_mkIface stepF_lookup stepF_mapUpdate stepF_ext
set_option maxHeartbeats 4000000
section
variable {t : List TR} {rho : Nat → Nat} {F T R M : Nat}
structure RecOK (t : List TR) (F : Nat) (id : Int) (r : TR) : Prop where
 al : (layF t F id).align = 1 ∨ (layF t F id).align = 2 ∨ (layF t F id).align = 4
 lo : 1 ≤ (layF t F id).size
 hi : (layF t F id).size ≤ 16384
 md : (layF t F id).size % (layF t F id).align = 0
 pl : ∀ p ∈ (layF t F id).pl, PlOK (layF t F) r.mem (8 * (layF t F id).size) (layF t F id).align p ∧ begE t F p.ty = 0
 ap : r.kind = 15 → (layF t F id).pl.Pairwise fun a b => hiP (layF t F) a ≤ loP b
 un : r.kind = 16 → ∀ p ∈ (layF t F id).pl, p.off = 0 ∧ p.bit = 0
 ml : r.mem.length ≤ 64
 nl : (layF t F id).pl.length ≤ r.mem.length
theorem foldS_len (E : Int → LayT) : ∀ (l : List Mem) (i : Nat) (s : AtT), (foldS E i l s).pl.length ≤ s.pl.length + l.length := by
 intro l
 induction l with
 | nil => intro i s; simp [foldS]
 | cons m r ih =>
  intro i s
  have h1 := ih (i + 1) (stepS E s i m)
  have h2 : (stepS E s i m).pl.length ≤ s.pl.length + 1 := by
   unfold stepS
   split
   ·simp
   ·split
    ·simp
    ·simp
  simp only [foldS, List.length_cons]
  omega
theorem foldU_len (E : Int → LayT) : ∀ (l : List Mem) (i : Nat) (s : LayT), (foldU E i l s).pl.length ≤ s.pl.length + l.length := by
 intro l
 induction l with
 | nil => intro i s; simp [foldU]
 | cons m r ih =>
  intro i s
  have h1 := ih (i + 1) (stepU E s i m)
  have h2 : (stepU E s i m).pl.length ≤ s.pl.length + 1 := by
   unfold stepU
   split
   ·simp
   ·split
    ·simp
    ·simp
  simp only [foldU, List.length_cons]
  omega
theorem rec_ok (hx : Tbl t rho F) {id : Int} {r : TR} (hg : getT t id = some r) (hk : r.kind = 15 ∨ r.kind = 16) (hb : begE t F id = 0) : RecOK t F id r := by
 obtain ⟨q1, q2, q3⟩ := beg_has hb
 have hmem : r ∈ t := List.mem_of_getElem? (getT_some hg).2
 have hd : r.done = true := by
  unfold wholeS at q2
  rw [hg] at q2
  dsimp only at q2
  unfold wholeR at q2
  rw [if_neg (by omega), if_neg (by omega), if_pos hk] at q2
  exact q2
 obtain ⟨e1, e2, e3⟩ := lay_rec hx.acc hx.rank hx.hF hg hk hd q3
 have hfit := mems_fit hx.acc hx.rank hx.hF hmem hd
 obtain ⟨hl64, hwm⟩ := mem_ok (ha := hx.acc) hmem hd
 have hme := hx.acc.mems r hmem hd
 have hhas : ∀ m ∈ r.mem, hasS t m.2.1 = true := fun m hm => by
  unfold membersE at hme
  split at hme
  ·cases hme
  ·exact (memsE_has hme m hm).1
 have hbeg : ∀ m ∈ r.mem, begE t F m.2.1 = 0 := fun m hm => by
  unfold begE
  rw [if_neg (by rw [hhas m hm]; simp), if_neg (by rw [hwm m hm]; simp), if_neg (by rw [e3 m hm]; simp)]
 have hpb : ∀ (pos al : Int) (p : PlT), PlOK (layF t F) r.mem pos al p → begE t F p.ty = 0 := fun pos al p h => by
  obtain ⟨k, m, _, g2, g3, _⟩ := h.mem
  rw [← g3]; exact hbeg m (List.mem_of_getElem? g2)
 rcases hk with k | k
 ·have hraw : layF t F id = structL (layF t F) r.mem := by rw [e1]; unfold rawL; rw [if_neg (by omega), if_pos k]
  obtain ⟨s1, s2, s3, s4, s5⟩ := struct_ok hfit
  have hnl := foldS_len (layF t F) r.mem 0 ⟨0, 1, []⟩
  rw [← hraw] at s1 s2 s3 s4 s5
  refine ⟨s1, s2, e2, s3, fun p hp => ⟨s4 p hp, hpb _ _ p (s4 p hp)⟩, fun _ => s5, fun q => by omega, hl64, ?_⟩
  rw [hraw]; unfold structL; simpa using hnl
 ·have hraw : layF t F id = unionL (layF t F) r.mem := by rw [e1]; unfold rawL; rw [if_neg (by omega), if_neg (by omega), if_pos k]
  obtain ⟨s1, s2, s3, s4⟩ := union_ok hfit
  have hnl := foldU_len (layF t F) r.mem 0 ⟨1, 1, []⟩
  rw [← hraw] at s1 s2 s3 s4
  refine ⟨s1, s2, e2, s3, fun p hp => ⟨(s4 p hp).1, hpb _ _ p (s4 p hp).1⟩, fun q => by omega, fun _ p hp => (s4 p hp).2, hl64, ?_⟩
  rw [hraw]; unfold unionL; simpa using hnl
theorem span_ok (hx : Tbl t rho F) (G : Heap) (ht : TabAt G T R M t.length false t) (p : PlT) {l : List Mem} {pos al : Int} (hp : PlOK (layF t F) l pos al p) (hpos : pos ≤ 200000) (hb : begE t F p.ty = 0) :
  ∃ Y, Ccall tab 17 [.mp T 0, .agg (plRow p)] G = some (.tup [.int .i64 (loP p), .int .i64 (hiP (layF t F) p), .bool true], G ++ Y) := by
 have h1 := hp.lo
 have h2 := hp.off
 have h3 := hp.hi
 have h4 := hp.bit
 have h5 := hp.fine.lo
 have h6 := hp.fine.hi
 have hun := hp.unit
 unfold hiP at h3 ⊢
 unfold loP at *
 have hpb : 0 ≤ p.bits := by
  obtain ⟨k, m, _, _, _, g4, _⟩ := hp.mem
  omega
 obtain ⟨Y, hs⟩ := size_ok hx G ht p.ty
 unfold sizE at hs
 rw [if_pos hb, hb] at hs
 by_cases c : 0 < p.bits
 ·rw [if_pos c] at h3 ⊢
  have w1 : IntKind.i64.wrap (8 * p.off) = 8 * p.off := IntWalk.i64_in _ (by omega)
  have w2 : IntKind.i64.wrap (8 * p.off + p.bit) = 8 * p.off + p.bit := IntWalk.i64_in _ (by omega)
  have w3 : IntKind.i64.wrap (8 * p.off + p.bit + p.bits) = 8 * p.off + p.bit + p.bits := IntWalk.i64_in _ (by omega)
  refine ⟨[], ?_⟩
  unfold plRow
  refine Ccall_over rfl rfl rfl rfl ?_
  rw [List.append_nil]
  clear hs hb hp ht hx h1 h2 h3 h4 h5 h6 hun hpb hpos
  repeat (any_goals first | simp (dsimp := false) (maxSteps := 4000000) (maxDischargeDepth := 8) (implicitDefEqProofs := false) [*, -Int.not_le, -Int.not_lt, amLt, f17c, f17q2, f17q4, f17r0, f17r1, f17r3, f17r2_u, f17r2_w, f17r4_u, f17r4_w] | with_reducible refine ch_both (fun _ => ?_) (fun _ => ?_) | with_reducible refine ite_both (fun _ => ?_) (fun _ => ?_) | intro _)
 ·rw [if_neg c] at h3 ⊢
  have hb0 : p.bits = 0 := by omega
  have hbit := h4.1 hb0
  have w1 : IntKind.i64.wrap (8 * p.off) = 8 * p.off := IntWalk.i64_in _ (by omega)
  have w2 : IntKind.i64.wrap (8 * (layF t F p.ty).size) = 8 * (layF t F p.ty).size := IntWalk.i64_in _ (by omega)
  have w3 : IntKind.i64.wrap (8 * p.off + 8 * (layF t F p.ty).size) = 8 * p.off + 8 * (layF t F p.ty).size := IntWalk.i64_in _ (by omega)
  refine ⟨Y, ?_⟩
  unfold plRow
  refine Ccall_over rfl rfl rfl rfl ?_
  clear hb hp ht hx h1 h2 h3 h4 h5 h6 hun hpb hpos c
  generalize layF t F p.ty = le at *
  obtain ⟨mm, ty, off, bit, bits⟩ := p
  dsimp only at *
  subst hb0 hbit
  repeat (any_goals first | simp (dsimp := false) (maxSteps := 4000000) (maxDischargeDepth := 8) (implicitDefEqProofs := false) [*, -Int.not_le, -Int.not_lt, amLt, f17c, f17q2, f17q4, f17r0, f17r1, f17r3, f17r2_u, f17r2_w, f17r4_u, f17r4_w] | with_reducible refine ch_both (fun _ => ?_) (fun _ => ?_) | with_reducible refine ite_both (fun _ => ?_) (fun _ => ?_) | intro _)
end
theorem r19_told (G : Heap) (C B : Nat) (X MR : List (List AV)) (c c2 : Cap) (id : Int) (n k : Nat) (a0 a1 a2 a3 a5 p1 p2 p3 p4 nm ty bits : AV) (x5 x8 x10 x12 x14 x16 x17 x19 x21 : AV) (E : List (Nat × AV)) (h0 : 0 ≤ id) (hn : id.toNat = n) (hC : G[C]? = some (.cells [.is X c])) (hX : X[n]? = some [a0, a1, a2, a3, .is MR c2, a5]) (hB : G[B]? = some (.cells [.int .i64 k, p1, p2, p3, p4])) (hM : MR[k]? = some [nm, ty, bits])
  (s1 : isSc nm = true) (s2 : isSc ty = true) (s3 : isSc bits = true) :
  Brun tab 287 (.region true f4r19 [1, 5, 6, 8, 10, 12, 14, 15, 16, 17, 19, 21, 23] 1) (ofL ((1, .int .i64 id) :: (5, x5) :: (6, .mp C 0) :: (8, x8) :: (10, x10) :: (12, x12) :: (14, x14) :: (15, .mp B 0) :: (16, x16) :: (17, x17) :: (19, x19) :: (21, x21) :: E)) G =
   some (.normal, ofL [(1, .int .i64 id), (5, x5), (6, .mp C 0), (8, x8), (10, x10), (12, x12), (14, x14), (15, .mp B 0), (16, x16), (17, x17), (19, x19), (21, x21), (23, .mp G.length 0)], G ++ [.cells [nm, ty, bits]]) := by
 have hCx := fun x => rapp hC x
 have hBx := fun x => rapp hB x
 have lC := (List.getElem?_eq_some_iff.1 hC).1
 have lB := (List.getElem?_eq_some_iff.1 hB).1
 have hCx' : ∀ x (hh : C < (G ++ x).length), (G ++ x)[C]'hh = .cells [.is X c] := fun x hh => (List.getElem?_eq_some_iff.1 (hCx x)).2
 have hBx' : ∀ x (hh : B < (G ++ x).length), (G ++ x)[B]'hh = .cells [.int .i64 k, p1, p2, p3, p4] := fun x hh => (List.getElem?_eq_some_iff.1 (hBx x)).2
 have hX' : ∀ hh : n < X.length, X[n] = [a0, a1, a2, a3, .is MR c2, a5] := fun hh => (List.getElem?_eq_some_iff.1 hX).2
 have hM' : ∀ hh : k < MR.length, MR[k] = [nm, ty, bits] := fun hh => (List.getElem?_eq_some_iff.1 hM).2
 have lX := (List.getElem?_eq_some_iff.1 hX).1
 have lM := (List.getElem?_eq_some_iff.1 hM).1
 have n1 : ¬ C = G.length := by omega
 have n2 : ¬ B = G.length := by omega
 have n3 : ¬ G.length = C := by omega
 have n4 : ¬ G.length = B := by omega
 subst hn
 refine Brun_told ?_
 clear hC hB lC lB
 simp [*, f4r19, asteps, astep, stepRun, aop, HC.run, HC.rds, HC.wrs, HC.ofOpt, Blk.isFree, wanted, put, cellsOf, splice, cget, slen, ssz, scells, roomy, rowsz, Cap.tight, drawOK, freeOf, Rec.indep, disj, apart, AOper.looks, AOp.tmps, AO.tmps, pTmps, oTmps, Nat.testBit, app_get, app_get0, app_set, app_set0, ofL, isPure, fillp]
section
variable {t : List TR} {rho : Nat → Nat} {F T R M C : Nat} {c cp : Cap}
theorem apart_inner (hx : Tbl t rho F) {id : Int} {r : TR} (hg : getT t id = some r) (hr : RecOK t F id r) (x10 x12 : AV) (i : Nat) (p : PlT) (hi : (layF t F id).pl[i]? = some p) : ∀ (n k : Nat) (G : Heap), k + n = i → TabAt G T R M t.length false t → G[C]? = some (.cells [.is ((t.map eraseT).map trow) c]) →
  ∃ Y E', Brun tab 287 (.loop f4l23) (ofL [(1, .int .i64 id), (5, .mp T 0), (6, .mp C 0), (8, .is (plRows (layF t F id).pl) cp), (10, x10), (12, x12), (14, .int .i64 i), (16, .int .i64 (loP p)), (17, .int .i64 (hiP (layF t F) p)), (24, .int .i64 k)]) G =
   some (.exit 2, ofL ((1, .int .i64 id) :: (5, .mp T 0) :: (6, .mp C 0) :: (8, .is (plRows (layF t F id).pl) cp) :: (10, x10) :: (12, x12) :: (14, .int .i64 i) :: E'), G ++ Y) := by
 obtain ⟨g0, gi⟩ := getT_some hg
 have hrow : ((t.map eraseT).map trow)[id.toNat]? = some (trow (eraseT r)) := by rw [List.getElem?_map, List.getElem?_map, gi]; rfl
 have hrow2 : ∀ hh : id.toNat < ((t.map eraseT).map trow).length, ((t.map eraseT).map trow)[id.toNat] = trow (eraseT r) := fun hh => (List.getElem?_eq_some_iff.1 hrow).2
 have lr := (List.getElem?_eq_some_iff.1 hrow).1
 have h1 : id < ((t.map eraseT).map trow).length := by omega
 have li := (List.getElem?_eq_some_iff.1 hi).1
 have hnl := hr.nl
 have hml := hr.ml
 intro n
 induction n with
 | zero =>
  intro k G hk ht hC
  have e1 : (k : Int) = i := by omega
  refine ⟨[], [(16, .int .i64 (loP p)), (17, .int .i64 (hiP (layF t F) p)), (24, .int .i64 k), (265, .bool false)], ?_⟩
  rw [Brun_loop, List.append_nil]
  have e2 : k = i := by omega
  subst e2
  generalize (t.map eraseT).map trow = X at *
  generalize plRows (layF t F id).pl = PL at *
  clear hx hg hr ht hi hk li hnl hml hC
  repeat (any_goals first | simp (dsimp := false) (maxSteps := 4000000) (maxDischargeDepth := 8) (implicitDefEqProofs := false) [*, -Int.not_le, -Int.not_lt, amLt, f4c, f4r0, f4r1, f4r2, f4r3, f4r4, f4r5, f4r6, f4r7, f4r8, f4r9, f4m12, f4m23, f4q17, f4r10, f4r11, f4r12, f4r13, f4r14, f4r15, f4r16, f4r18, f4r20, f4r21, f4r22, f4r23, f4r24, f4r25, f4r26, f4r27, f4r28, f4r29, f4l12_b, f4l23_b, f4r17_u, f4r17_w] | with_reducible refine ch_both (fun _ => ?_) (fun _ => ?_) | with_reducible refine ite_both (fun _ => ?_) (fun _ => ?_) | intro _)
 | succ n ih =>
  intro k G hk ht hC
  have hki : (k : Int) < i := by omega
  have hki' : k < i := by omega
  have lk : k < (layF t F id).pl.length := by omega
  have hpk : (layF t F id).pl[k]? = some (layF t F id).pl[k] := List.getElem?_eq_getElem lk
  obtain ⟨hq, hqb⟩ := hr.pl _ (List.getElem_mem lk)
  have hpr : (plRows (layF t F id).pl)[k]? = some (plRow (layF t F id).pl[k]) := by unfold plRows; rw [List.getElem?_map, hpk]; rfl
  have hpr2 : ∀ hh : k < (plRows (layF t F id).pl).length, (plRows (layF t F id).pl)[k] = plRow (layF t F id).pl[k] := fun hh => (List.getElem?_eq_some_iff.1 hpr).2
  have hpl : (plRows (layF t F id).pl).length = (layF t F id).pl.length := by unfold plRows; exact List.length_map ..
  have hw := cw64 k (by omega)
  have hsz := hr.hi
  by_cases k15 : r.kind = 15
  ·have hap := List.pairwise_iff_getElem.1 (hr.ap k15) k i lk li (by omega)
   have hpi : (layF t F id).pl[i] = p := (List.getElem?_eq_some_iff.1 hi).2
   rw [hpi] at hap
   obtain ⟨Y, hs⟩ := span_ok hx G ht (layF t F id).pl[k] hq (by omega) hqb
   obtain ⟨Y2, E', h2⟩ := ih (k + 1) (G ++ Y) (by omega) (ht.app _) (rapp hC _)
   refine ⟨Y ++ Y2, E', ?_⟩
   have hap1 : ¬ loP p < hiP (layF t F) (layF t F id).pl[k] := by omega
   have hap2 : hiP (layF t F) (layF t F id).pl[k] ≤ loP p := by omega
   push_cast at h2
   rw [Brun_loop]
   unfold plRow at hs hpr hpr2
   generalize (t.map eraseT).map trow = X at *
   unfold trow eraseT at hrow hrow2
   generalize (layF t F id).pl[k] = q at *
   generalize plRows (layF t F id).pl = PL at *
   generalize hiP (layF t F) q = hq1 at *
   generalize loP q = lq at *
   generalize hiP (layF t F) p = hp1 at *
   generalize loP p = lp at *
   rw [k15] at hrow hrow2
   rw [← List.append_assoc]
   clear hx hg hr ht hi hk li hnl hml ih lk hpk hq hqb hap hpi hsz
   by_cases c1 : lq < hp1
   ·repeat (any_goals first | simp (dsimp := false) (maxSteps := 4000000) (maxDischargeDepth := 8) (implicitDefEqProofs := false) [*, -Int.not_le, -Int.not_lt, amLt, f4c, f4r0, f4r1, f4r2, f4r3, f4r4, f4r5, f4r6, f4r7, f4r8, f4r9, f4m12, f4m23, f4q17, f4r10, f4r11, f4r12, f4r13, f4r14, f4r15, f4r16, f4r18, f4r20, f4r21, f4r22, f4r23, f4r24, f4r25, f4r26, f4r27, f4r28, f4r29, f4l12_b, f4l23_b, f4r17_u, f4r17_w] | with_reducible refine ch_both (fun _ => ?_) (fun _ => ?_) | with_reducible refine ite_both (fun _ => ?_) (fun _ => ?_) | intro _)
   ·repeat (any_goals first | simp (dsimp := false) (maxSteps := 4000000) (maxDischargeDepth := 8) (implicitDefEqProofs := false) [*, -Int.not_le, -Int.not_lt, amLt, f4c, f4r0, f4r1, f4r2, f4r3, f4r4, f4r5, f4r6, f4r7, f4r8, f4r9, f4m12, f4m23, f4q17, f4r10, f4r11, f4r12, f4r13, f4r14, f4r15, f4r16, f4r18, f4r20, f4r21, f4r22, f4r23, f4r24, f4r25, f4r26, f4r27, f4r28, f4r29, f4l12_b, f4l23_b, f4r17_u, f4r17_w] | with_reducible refine ch_both (fun _ => ?_) (fun _ => ?_) | with_reducible refine ite_both (fun _ => ?_) (fun _ => ?_) | intro _)
  ·refine ⟨[], [(16, .int .i64 (loP p)), (17, .int .i64 (hiP (layF t F) p)), (24, .int .i64 k), (265, .bool false)], ?_⟩
   rw [Brun_loop, List.append_nil]
   generalize (t.map eraseT).map trow = X at *
   unfold trow eraseT at hrow hrow2
   generalize plRows (layF t F id).pl = PL at *
   clear hx hg hr ht hi hk li hnl hml ih lk hpk hq hqb hpr hpr2 hsz
   repeat (any_goals first | simp (dsimp := false) (maxSteps := 4000000) (maxDischargeDepth := 8) (implicitDefEqProofs := false) [*, -Int.not_le, -Int.not_lt, amLt, f4c, f4r0, f4r1, f4r2, f4r3, f4r4, f4r5, f4r6, f4r7, f4r8, f4r9, f4m12, f4m23, f4q17, f4r10, f4r11, f4r12, f4r13, f4r14, f4r15, f4r16, f4r18, f4r20, f4r21, f4r22, f4r23, f4r24, f4r25, f4r26, f4r27, f4r28, f4r29, f4l12_b, f4l23_b, f4r17_u, f4r17_w] | with_reducible refine ch_both (fun _ => ?_) (fun _ => ?_) | with_reducible refine ite_both (fun _ => ?_) (fun _ => ?_) | intro _)
end
section
variable {t : List TR} {rho : Nat → Nat} {F T R M C : Nat} {c cp : Cap}
theorem apart_body (hx : Tbl t rho F) {id : Int} {r : TR} (hg : getT t id = some r) (hk15 : r.kind = 15 ∨ r.kind = 16) (hr : RecOK t F id r) (i : Nat) (p : PlT) (hi : (layF t F id).pl[i]? = some p) (G : Heap) (ht : TabAt G T R M t.length false t) (hC : G[C]? = some (.cells [.is ((t.map eraseT).map trow) c])) :
  ∃ Y, Brun tab 287 f4l12 (ofL [(1, .int .i64 id), (5, .mp T 0), (6, .mp C 0), (8, .is (plRows (layF t F id).pl) cp), (10, .int .i64 (layF t F id).size), (12, .int .i64 (layF t F id).align), (14, .int .i64 i)]) G =
   some (.normal, ofL [(1, .int .i64 id), (5, .mp T 0), (6, .mp C 0), (8, .is (plRows (layF t F id).pl) cp), (10, .int .i64 (layF t F id).size), (12, .int .i64 (layF t F id).align), (14, .int .i64 (i + 1))], G ++ Y) := by
 obtain ⟨g0, gi⟩ := getT_some hg
 have hrow : ((t.map eraseT).map trow)[id.toNat]? = some (trow (eraseT r)) := by rw [List.getElem?_map, List.getElem?_map, gi]; rfl
 have hrow2 : ∀ hh : id.toNat < ((t.map eraseT).map trow).length, ((t.map eraseT).map trow)[id.toNat] = trow (eraseT r) := fun hh => (List.getElem?_eq_some_iff.1 hrow).2
 have lr := (List.getElem?_eq_some_iff.1 hrow).1
 have h1 : id < ((t.map eraseT).map trow).length := by omega
 have li := (List.getElem?_eq_some_iff.1 hi).1
 have hpi : p ∈ (layF t F id).pl := List.mem_of_getElem? hi
 obtain ⟨hq, hqb⟩ := hr.pl p hpi
 have hnl := hr.nl
 have hml := hr.ml
 have hsz := hr.hi
 have hlo := hr.lo
 have hpr : (plRows (layF t F id).pl)[i]? = some (plRow p) := by unfold plRows; rw [List.getElem?_map, hi]; rfl
 have hpl : (plRows (layF t F id).pl).length = (layF t F id).pl.length := by unfold plRows; exact List.length_map ..
 have hii : (i : Int) < (layF t F id).pl.length := by omega
 have hw := cw64 i (by omega)
 obtain ⟨m, mm, m1, m2, m3, m4, m5⟩ := hq.mem
 have hmr : (memRows r.mem)[m]? = some (memRow mm) := by simp [memRows, m2]
 have hmlen := memRows_len r.mem
 have lm := (List.getElem?_eq_some_iff.1 m2).1
 obtain ⟨pb, hpb⟩ : ∃ pb : Blk, pb = .cells (plRow p) := ⟨_, rfl⟩
 obtain ⟨Y1, c1⟩ := span_ok hx (G ++ [pb]) (ht.app _) p hq (by omega) hqb
 obtain ⟨Y2, c2⟩ := size_ok hx (G ++ ([pb] ++ Y1)) (ht.app _) p.ty
 obtain ⟨Y3, c3⟩ := align_ok hx (G ++ ([pb] ++ Y1 ++ Y2)) (ht.app _) p.ty
 unfold sizE at c2
 unfold aliE at c3
 rw [if_pos hqb, hqb] at c2 c3
 have hBx : ∀ x, (G ++ ([pb] ++ x))[G.length]? = some (.cells (plRow p)) := fun x => by rw [List.getElem?_append_right (Nat.le_refl _), Nat.sub_self, hpb]; rfl
 obtain ⟨mb, hmb⟩ : ∃ mb : Blk, mb = .cells (memRow mm) := ⟨_, rfl⟩
 have hMx : ∀ x, (G ++ ([pb] ++ Y1 ++ Y2 ++ Y3 ++ ([mb] ++ x)))[(G ++ ([pb] ++ Y1 ++ Y2 ++ Y3)).length]? = some (.cells (memRow mm)) := fun x => by
  rw [← List.append_assoc, List.getElem?_append_right (Nat.le_refl _), Nat.sub_self, hmb]; rfl
 obtain ⟨Y4, E4, c4⟩ := apart_inner (cp := cp) hx hg hr (.int .i64 (layF t F id).size) (.int .i64 (layF t F id).align) i p hi i 0 (G ++ ([pb] ++ Y1 ++ Y2 ++ Y3 ++ [mb])) (by omega) (ht.app _) (rapp hC _)
 have hr19 := fun x5 x8 x10 x12 x14 x16 x17 x19 x21 E => r19_told (G ++ ([pb] ++ Y1 ++ Y2 ++ Y3)) C G.length ((t.map eraseT).map trow) (memRows r.mem) c .no id id.toNat m (.int .i64 r.kind) (.int .i64 r.elem) (.int .i64 r.len) (.str r.tag) (.bool r.done) (.int .i64 p.ty) (.int .i64 p.off) (.int .i64 p.bit) (.int .i64 p.bits) (.str mm.1) (.int .i64 mm.2.1) (.int .i64 mm.2.2) x5 x8 x10 x12 x14 x16 x17 x19 x21 E g0 rfl (rapp hC _) hrow (by have := hBx (Y1 ++ Y2 ++ Y3); rw [← List.append_assoc [pb], ← List.append_assoc [pb]] at this; unfold plRow at this; rw [m1] at this; exact this) hmr rfl rfl rfl
 have hCx := fun x => rapp hC x
 have hfl := hq.fine
 have f1 := hfl.al
 have f2 := hfl.lo
 have f3 := hfl.hi
 have f4 := hq.off
 have f5 := hq.lo
 have f6 := hq.hi
 have f7 := hq.md
 have f8 := hq.unit
 have f9 := hq.bit
 have q1 : p.off.tmod (layF t F p.ty).align = 0 := by rw [Int.tmod_eq_emod_of_nonneg f4]; exact f7
 have q2 : (layF t F id).align.tmod (layF t F p.ty).align = 0 ∨ mm.1 = [] := by
  by_cases e : mm.1 = []
  ·exact .inr e
  ·left
   have g1 := m5 e
   have g2 := hr.al
   rw [Int.tmod_eq_emod_of_nonneg (by omega)]
   rcases f1 with q | q | q <;> rcases g2 with q' | q' | q' <;> rw [q] at g1 ⊢ <;> rw [q'] at g1 ⊢ <;> omega
 have q3 : ¬ (layF t F p.ty).align = 0 := by omega
 have w1 : IntKind.i64.wrap (8 * (layF t F id).size) = 8 * (layF t F id).size := IntWalk.i64_in _ (by omega)
 have w2 : IntKind.i64.wrap (8 * (layF t F p.ty).size) = 8 * (layF t F p.ty).size := IntWalk.i64_in _ (by omega)
 have q4 : ¬ loP p < 0 := by omega
 have q5 : ¬ 8 * (layF t F id).size < hiP (layF t F) p := by omega
 have q6 : (if (0 : Int) < mm.2.2 then mm.2.2 else 0) = p.bits := by rw [← m4]; split <;> omega
 have q6' : (if mm.2.2 ≤ 0 then (0 : Int) else mm.2.2) = p.bits := by rw [← m4]; split <;> omega
 have q7 : 0 < p.bits → IntKind.i64.wrap (p.bit + p.bits) = p.bit + p.bits := fun q => IntWalk.i64_in _ (by have := f8 q; omega)
 have q8 : 0 < p.bits → ¬ 8 * (layF t F p.ty).size < p.bit + p.bits := fun q => by have := f8 q; omega
 have q8' : 0 < p.bits → p.bit + p.bits ≤ 8 * (layF t F p.ty).size := f8
 have q9 : r.kind = 16 → p.off = 0 ∧ p.bit = 0 := fun q => hr.un q p hpi
 have q10 : (m : Int) < r.mem.length := by omega
 have q11 : ¬ (m : Int) < 0 := by omega
 have q12 : ¬ (r.mem.length : Int) ≤ m := by omega
 refine ⟨[pb] ++ Y1 ++ Y2 ++ Y3 ++ [mb] ++ Y4, ?_⟩
 simp only [Int.natCast_zero] at c4
 rw [List.length_append] at hr19 hMx
 simp only [List.append_assoc, List.cons_append, List.nil_append] at *
 generalize (t.map eraseT).map trow = X at *
 subst hpb hmb
 simp only [plRow, memRow] at *
 unfold trow eraseT at hrow hrow2
 have hmb : max 0 mm.2.2 = p.bits := m4
 generalize plRows (layF t F id).pl = PL at *
 generalize memRows r.mem = MR at *
 generalize hiP (layF t F) p = hp1 at *
 generalize loP p = lp at *
 generalize layF t F id = li0 at *
 generalize layF t F p.ty = lp0 at *
 obtain ⟨kind, elem, len, tag, mem, done_, cp0⟩ := r
 obtain ⟨nm, mty, mbits⟩ := mm
 obtain ⟨pm, pty, poff, pbit, pbits⟩ := p
 dsimp only at *
 have e12 : ¬ 16384 < li0.size := by omega
 clear hx hg hr ht hi hpi hq hqb hnl hml hsz m2 m4 m5 hmr lm hfl f1 f2 f3 f4 f5 f6 f7 f8 f9 lr li gi hC hlo
 subst m3
 subst m1
 by_cases cb : 0 < pbits
 ·replace q7 := q7 cb
  replace q8 := q8 cb
  replace q8' := q8' cb
  rcases hk15 with rfl | rfl
  ·clear q9
   rcases q2 with q2 | rfl
   ·by_cases cn : nm = []
    ·subst cn
     repeat (any_goals first | simp (dsimp := false) (maxSteps := 4000000) (maxDischargeDepth := 8) (implicitDefEqProofs := false) [*, -Int.not_le, -Int.not_lt, amLt, f4c, f4r0, f4r1, f4r2, f4r3, f4r4, f4r5, f4r6, f4r7, f4r8, f4r9, f4m12, f4m23, f4q17, f4r10, f4r11, f4r12, f4r13, f4r14, f4r15, f4r16, f4r18, f4r20, f4r21, f4r22, f4r23, f4r24, f4r25, f4r26, f4r27, f4r28, f4r29, f4l12_b, f4l23_b, f4r17_u, f4r17_w, app_get, app_get0, app_set, app_set0, List.length_append] | with_reducible refine ch_both (fun _ => ?_) (fun _ => ?_) | with_reducible refine ite_both (fun _ => ?_) (fun _ => ?_) | intro _)
    ·repeat (any_goals first | simp (dsimp := false) (maxSteps := 4000000) (maxDischargeDepth := 8) (implicitDefEqProofs := false) [*, -Int.not_le, -Int.not_lt, amLt, f4c, f4r0, f4r1, f4r2, f4r3, f4r4, f4r5, f4r6, f4r7, f4r8, f4r9, f4m12, f4m23, f4q17, f4r10, f4r11, f4r12, f4r13, f4r14, f4r15, f4r16, f4r18, f4r20, f4r21, f4r22, f4r23, f4r24, f4r25, f4r26, f4r27, f4r28, f4r29, f4l12_b, f4l23_b, f4r17_u, f4r17_w, app_get, app_get0, app_set, app_set0, List.length_append] | with_reducible refine ch_both (fun _ => ?_) (fun _ => ?_) | with_reducible refine ite_both (fun _ => ?_) (fun _ => ?_) | intro _)
   ·repeat (any_goals first | simp (dsimp := false) (maxSteps := 4000000) (maxDischargeDepth := 8) (implicitDefEqProofs := false) [*, -Int.not_le, -Int.not_lt, amLt, f4c, f4r0, f4r1, f4r2, f4r3, f4r4, f4r5, f4r6, f4r7, f4r8, f4r9, f4m12, f4m23, f4q17, f4r10, f4r11, f4r12, f4r13, f4r14, f4r15, f4r16, f4r18, f4r20, f4r21, f4r22, f4r23, f4r24, f4r25, f4r26, f4r27, f4r28, f4r29, f4l12_b, f4l23_b, f4r17_u, f4r17_w, app_get, app_get0, app_set, app_set0, List.length_append] | with_reducible refine ch_both (fun _ => ?_) (fun _ => ?_) | with_reducible refine ite_both (fun _ => ?_) (fun _ => ?_) | intro _)
  ·obtain ⟨rfl, rfl⟩ := q9 rfl
   clear q9
   simp only [Int.zero_add] at q7 q8 q8'
   rcases q2 with q2 | rfl
   ·by_cases cn : nm = []
    ·subst cn
     repeat (any_goals first | simp (dsimp := false) (maxSteps := 4000000) (maxDischargeDepth := 8) (implicitDefEqProofs := false) [*, -Int.not_le, -Int.not_lt, amLt, f4c, f4r0, f4r1, f4r2, f4r3, f4r4, f4r5, f4r6, f4r7, f4r8, f4r9, f4m12, f4m23, f4q17, f4r10, f4r11, f4r12, f4r13, f4r14, f4r15, f4r16, f4r18, f4r20, f4r21, f4r22, f4r23, f4r24, f4r25, f4r26, f4r27, f4r28, f4r29, f4l12_b, f4l23_b, f4r17_u, f4r17_w, app_get, app_get0, app_set, app_set0, List.length_append] | with_reducible refine ch_both (fun _ => ?_) (fun _ => ?_) | with_reducible refine ite_both (fun _ => ?_) (fun _ => ?_) | intro _)
    ·repeat (any_goals first | simp (dsimp := false) (maxSteps := 4000000) (maxDischargeDepth := 8) (implicitDefEqProofs := false) [*, -Int.not_le, -Int.not_lt, amLt, f4c, f4r0, f4r1, f4r2, f4r3, f4r4, f4r5, f4r6, f4r7, f4r8, f4r9, f4m12, f4m23, f4q17, f4r10, f4r11, f4r12, f4r13, f4r14, f4r15, f4r16, f4r18, f4r20, f4r21, f4r22, f4r23, f4r24, f4r25, f4r26, f4r27, f4r28, f4r29, f4l12_b, f4l23_b, f4r17_u, f4r17_w, app_get, app_get0, app_set, app_set0, List.length_append] | with_reducible refine ch_both (fun _ => ?_) (fun _ => ?_) | with_reducible refine ite_both (fun _ => ?_) (fun _ => ?_) | intro _)
   ·repeat (any_goals first | simp (dsimp := false) (maxSteps := 4000000) (maxDischargeDepth := 8) (implicitDefEqProofs := false) [*, -Int.not_le, -Int.not_lt, amLt, f4c, f4r0, f4r1, f4r2, f4r3, f4r4, f4r5, f4r6, f4r7, f4r8, f4r9, f4m12, f4m23, f4q17, f4r10, f4r11, f4r12, f4r13, f4r14, f4r15, f4r16, f4r18, f4r20, f4r21, f4r22, f4r23, f4r24, f4r25, f4r26, f4r27, f4r28, f4r29, f4l12_b, f4l23_b, f4r17_u, f4r17_w, app_get, app_get0, app_set, app_set0, List.length_append] | with_reducible refine ch_both (fun _ => ?_) (fun _ => ?_) | with_reducible refine ite_both (fun _ => ?_) (fun _ => ?_) | intro _)
 ·clear q7 q8 q8'
  rcases hk15 with rfl | rfl
  ·clear q9
   rcases q2 with q2 | rfl
   ·by_cases cn : nm = []
    ·subst cn
     repeat (any_goals first | simp (dsimp := false) (maxSteps := 4000000) (maxDischargeDepth := 8) (implicitDefEqProofs := false) [*, -Int.not_le, -Int.not_lt, amLt, f4c, f4r0, f4r1, f4r2, f4r3, f4r4, f4r5, f4r6, f4r7, f4r8, f4r9, f4m12, f4m23, f4q17, f4r10, f4r11, f4r12, f4r13, f4r14, f4r15, f4r16, f4r18, f4r20, f4r21, f4r22, f4r23, f4r24, f4r25, f4r26, f4r27, f4r28, f4r29, f4l12_b, f4l23_b, f4r17_u, f4r17_w, app_get, app_get0, app_set, app_set0, List.length_append] | with_reducible refine ch_both (fun _ => ?_) (fun _ => ?_) | with_reducible refine ite_both (fun _ => ?_) (fun _ => ?_) | intro _)
    ·repeat (any_goals first | simp (dsimp := false) (maxSteps := 4000000) (maxDischargeDepth := 8) (implicitDefEqProofs := false) [*, -Int.not_le, -Int.not_lt, amLt, f4c, f4r0, f4r1, f4r2, f4r3, f4r4, f4r5, f4r6, f4r7, f4r8, f4r9, f4m12, f4m23, f4q17, f4r10, f4r11, f4r12, f4r13, f4r14, f4r15, f4r16, f4r18, f4r20, f4r21, f4r22, f4r23, f4r24, f4r25, f4r26, f4r27, f4r28, f4r29, f4l12_b, f4l23_b, f4r17_u, f4r17_w, app_get, app_get0, app_set, app_set0, List.length_append] | with_reducible refine ch_both (fun _ => ?_) (fun _ => ?_) | with_reducible refine ite_both (fun _ => ?_) (fun _ => ?_) | intro _)
   ·repeat (any_goals first | simp (dsimp := false) (maxSteps := 4000000) (maxDischargeDepth := 8) (implicitDefEqProofs := false) [*, -Int.not_le, -Int.not_lt, amLt, f4c, f4r0, f4r1, f4r2, f4r3, f4r4, f4r5, f4r6, f4r7, f4r8, f4r9, f4m12, f4m23, f4q17, f4r10, f4r11, f4r12, f4r13, f4r14, f4r15, f4r16, f4r18, f4r20, f4r21, f4r22, f4r23, f4r24, f4r25, f4r26, f4r27, f4r28, f4r29, f4l12_b, f4l23_b, f4r17_u, f4r17_w, app_get, app_get0, app_set, app_set0, List.length_append] | with_reducible refine ch_both (fun _ => ?_) (fun _ => ?_) | with_reducible refine ite_both (fun _ => ?_) (fun _ => ?_) | intro _)
  ·obtain ⟨rfl, rfl⟩ := q9 rfl
   clear q9
   rcases q2 with q2 | rfl
   ·by_cases cn : nm = []
    ·subst cn
     repeat (any_goals first | simp (dsimp := false) (maxSteps := 4000000) (maxDischargeDepth := 8) (implicitDefEqProofs := false) [*, -Int.not_le, -Int.not_lt, amLt, f4c, f4r0, f4r1, f4r2, f4r3, f4r4, f4r5, f4r6, f4r7, f4r8, f4r9, f4m12, f4m23, f4q17, f4r10, f4r11, f4r12, f4r13, f4r14, f4r15, f4r16, f4r18, f4r20, f4r21, f4r22, f4r23, f4r24, f4r25, f4r26, f4r27, f4r28, f4r29, f4l12_b, f4l23_b, f4r17_u, f4r17_w, app_get, app_get0, app_set, app_set0, List.length_append] | with_reducible refine ch_both (fun _ => ?_) (fun _ => ?_) | with_reducible refine ite_both (fun _ => ?_) (fun _ => ?_) | intro _)
    ·repeat (any_goals first | simp (dsimp := false) (maxSteps := 4000000) (maxDischargeDepth := 8) (implicitDefEqProofs := false) [*, -Int.not_le, -Int.not_lt, amLt, f4c, f4r0, f4r1, f4r2, f4r3, f4r4, f4r5, f4r6, f4r7, f4r8, f4r9, f4m12, f4m23, f4q17, f4r10, f4r11, f4r12, f4r13, f4r14, f4r15, f4r16, f4r18, f4r20, f4r21, f4r22, f4r23, f4r24, f4r25, f4r26, f4r27, f4r28, f4r29, f4l12_b, f4l23_b, f4r17_u, f4r17_w, app_get, app_get0, app_set, app_set0, List.length_append] | with_reducible refine ch_both (fun _ => ?_) (fun _ => ?_) | with_reducible refine ite_both (fun _ => ?_) (fun _ => ?_) | intro _)
   ·repeat (any_goals first | simp (dsimp := false) (maxSteps := 4000000) (maxDischargeDepth := 8) (implicitDefEqProofs := false) [*, -Int.not_le, -Int.not_lt, amLt, f4c, f4r0, f4r1, f4r2, f4r3, f4r4, f4r5, f4r6, f4r7, f4r8, f4r9, f4m12, f4m23, f4q17, f4r10, f4r11, f4r12, f4r13, f4r14, f4r15, f4r16, f4r18, f4r20, f4r21, f4r22, f4r23, f4r24, f4r25, f4r26, f4r27, f4r28, f4r29, f4l12_b, f4l23_b, f4r17_u, f4r17_w, app_get, app_get0, app_set, app_set0, List.length_append] | with_reducible refine ch_both (fun _ => ?_) (fun _ => ?_) | with_reducible refine ite_both (fun _ => ?_) (fun _ => ?_) | intro _)
end
theorem basicR_erase (i : Nat) (r : TR) : basicR i (eraseT r) = basicR i r := rfl
theorem shapedR_erase (i : Nat) (r : TR) : shapedR i (eraseT r) = shapedR i r := rfl
theorem deps_erase (r : TR) : deps (eraseT r) = deps r := rfl
theorem twice_erase (t : List TR) (i : Nat) (r : TR) : twiceS (t.map eraseT) i (eraseT r) = twiceS t i r := by
 unfold twiceS
 rw [← List.map_take, List.any_map]
 rfl
theorem acc_erase {t : List TR} (h : AccP (t.map eraseT)) : AccP t := by
 have hl : (t.map eraseT).length = t.length := List.length_map ..
 have get : ∀ (i : Nat) (r : TR), t[i]? = some r → (t.map eraseT)[i]? = some (eraseT r) := fun i r hi => by rw [List.getElem?_map, hi]; rfl
 have mem : ∀ r ∈ t, eraseT r ∈ t.map eraseT := fun r hr => List.mem_map.2 ⟨r, hr, rfl⟩
 refine ⟨by rw [← hl]; exact h.lo, by rw [← hl]; exact h.hi, fun i r hi hlt => ?_, fun i r hi hge => ?_, fun r hr hk => ?_, fun r hr hd => ?_, ?_⟩
 ·rw [← basicR_erase]; exact h.basic i _ (get i r hi) hlt
 ·rw [← shapedR_erase, ← twice_erase]; exact h.row i _ (get i r hi) hge
 ·have := h.whole _ (mem r hr) hk
  rw [whole_erase] at this; exact this
 ·have := h.mems _ (mem r hr) hd
  rw [whole_erase, kind_erase, has_erase] at this; exact this
 ·obtain ⟨rho, hr⟩ := h.rank
  refine ⟨rho, fun i w hi d hd => ?_⟩
  have := hr i _ (get i w hi) d hd
  rw [hl] at this; exact this
theorem rho_bound (rho : Nat → Nat) : ∀ n, ∃ F, ∀ i, i < n → rho i < F := by
 intro n
 induction n with
 | zero => exact ⟨0, fun i h => by omega⟩
 | succ n ih =>
  obtain ⟨F, hF⟩ := ih
  refine ⟨max F (rho n + 1), fun i hi => ?_⟩
  by_cases e : i = n
  ·subst e; omega
  ·have := hF i (by omega); omega
theorem tbl_of {rows : List TR} (hcap : ∀ w ∈ rows, w.cap = .no) (hsz : ∀ w ∈ rows, w.mem.length ≤ 16777216) (ha : AccR rows) : ∃ rho F, Tbl (tabOf rows) rho F ∧ (tabOf rows).map eraseT = rows ∧ (tabOf rows).length = rows.length := by
 have hp := acc_imp ha
 have he := tab_erase hcap hp
 have hacc : AccP (tabOf rows) := acc_erase (by rw [he]; exact hp)
 obtain ⟨rho, hr⟩ := hacc.rank
 obtain ⟨F, hF⟩ := rho_bound rho (tabOf rows).length
 refine ⟨rho, F, ⟨hacc, hr, hF, fun w hw => ?_⟩, he, tab_len hcap hp⟩
 have : eraseT w ∈ rows := by rw [← he]; exact List.mem_map.2 ⟨w, hw, rfl⟩
 show (eraseT w).mem.length ≤ 16777216
 exact hsz _ this
section
variable {t : List TR} {rho : Nat → Nat} {F T R M C : Nat} {c cp : Cap}
theorem apart_loop (hx : Tbl t rho F) {id : Int} {r : TR} (hg : getT t id = some r) (hk15 : r.kind = 15 ∨ r.kind = 16) (hr : RecOK t F id r) : ∀ (n i : Nat) (G : Heap), i + n = (layF t F id).pl.length → TabAt G T R M t.length false t → G[C]? = some (.cells [.is ((t.map eraseT).map trow) c]) →
  ∃ Y E', Brun tab 287 (.loop f4l12) (ofL [(1, .int .i64 id), (5, .mp T 0), (6, .mp C 0), (8, .is (plRows (layF t F id).pl) cp), (10, .int .i64 (layF t F id).size), (12, .int .i64 (layF t F id).align), (14, .int .i64 i)]) G =
   some (.exit 0, ofL E', G ++ Y) := by
 have hpl : (plRows (layF t F id).pl).length = (layF t F id).pl.length := by unfold plRows; exact List.length_map ..
 intro n
 induction n with
 | zero =>
  intro i G hi ht hC
  have e1 : ((layF t F id).pl.length : Int) = i := by omega
  refine ⟨[], [(1, .int .i64 id), (5, .mp T 0), (6, .mp C 0), (8, .is (plRows (layF t F id).pl) cp), (10, .int .i64 (layF t F id).size), (12, .int .i64 (layF t F id).align), (14, .int .i64 i), (106, .bool false)], ?_⟩
  rw [Brun_loop, List.append_nil]
  generalize plRows (layF t F id).pl = PL at *
  clear hx hg hr ht hi hC hk15
  repeat (any_goals first | simp (dsimp := false) (maxSteps := 4000000) (maxDischargeDepth := 8) (implicitDefEqProofs := false) [*, -Int.not_le, -Int.not_lt, amLt, f4c, f4r0, f4r1, f4r2, f4r3, f4r4, f4r5, f4r6, f4r7, f4r8, f4r9, f4m12, f4m23, f4q17, f4r10, f4r11, f4r12, f4r13, f4r14, f4r15, f4r16, f4r18, f4r20, f4r21, f4r22, f4r23, f4r24, f4r25, f4r26, f4r27, f4r28, f4r29, f4l12_b, f4l23_b, f4r17_u, f4r17_w] | with_reducible refine ch_both (fun _ => ?_) (fun _ => ?_) | with_reducible refine ite_both (fun _ => ?_) (fun _ => ?_) | intro _)
 | succ n ih =>
  intro i G hi ht hC
  have li : i < (layF t F id).pl.length := by omega
  obtain ⟨Y, hb⟩ := apart_body (cp := cp) hx hg hk15 hr i _ (List.getElem?_eq_getElem li) G ht hC
  obtain ⟨Y2, E', h2⟩ := ih (i + 1) (G ++ Y) (by omega) (ht.app _) (rapp hC _)
  refine ⟨Y ++ Y2, E', ?_⟩
  push_cast at h2
  rw [Brun_loop, hb, bthen_normal, h2, List.append_assoc]
end
theorem apart_law (rows : List TR) (c0 : Cap) (id : Int) (hcap : ∀ w ∈ rows, w.cap = .no) (hsz : ∀ w ∈ rows, w.tag.length ≤ 1048576 ∧ w.mem.length ≤ 16777216 ∧ ∀ m ∈ w.mem, m.1.length ≤ 1048576) (hlen : rows.length ≤ 16777216) (H : Heap) :
  ∃ G', Ccall tab 4 [.is (rows.map trow) c0, .int .i64 id] H = some (.bool true, G') := by
 obtain ⟨G, k1, hB⟩ := both_ok [] rows .no hcap hsz hlen
 have hh := heads_ok
 refine ⟨H, Ccall_own rfl rfl rfl rfl ?_⟩
 rcases hB with ⟨T, R, M, C, cap, es, ck, hat, hb⟩ | hb
 ·obtain ⟨rho, F, hx, he, hl⟩ := tbl_of hcap (fun w hw => (hsz w hw).2.1) hat.acc
  have ht := hat.tab
  have hC := hat.ref
  rw [← hl] at ht
  have hrec := rrecord_ok hC id
  have hkind : kindS rows id = kindS (tabOf rows) id := by
   have := kind_erase (tabOf rows)
   rw [he] at this
   exact congrFun this id
  by_cases hk : kindS rows id = 15 ∨ kindS rows id = 16
  ·rw [show decide (kindS rows id = 15 ∨ kindS rows id = 16) = true by simpa using hk] at hrec
   obtain ⟨Y1, p1, p2⟩ := places_ok hx G ht id
   obtain ⟨Y2, s1⟩ := size_ok hx (G ++ Y1) (ht.app _) id
   obtain ⟨Y3, a1⟩ := align_ok hx (G ++ Y1 ++ Y2) ((ht.app _).app _) id
   unfold sizE at s1
   unfold aliE at a1
   have hrS : recS (tabOf rows) id = true := by unfold recS; rw [← hkind]; simpa using hk
   unfold plaE at p1 p2
   rw [if_pos hrS] at p1 p2
   by_cases h0 : begE (tabOf rows) F id = 0
   ·rw [if_pos h0] at p1 p2 s1 a1
    rw [h0] at s1 a1
    obtain ⟨cp, p2⟩ := p2 rfl
    obtain ⟨q1, q2, q3⟩ := beg_has h0
    unfold hasS at q1
    cases hg : getT (tabOf rows) id with
    | none => rw [hg] at q1; cases q1
    | some r =>
     have hk15 : r.kind = 15 ∨ r.kind = 16 := by
      rw [hkind] at hk
      unfold kindS at hk
      rw [hg] at hk
      exact hk
     have hr := rec_ok hx hg hk15 h0
     obtain ⟨Y4, E', lp⟩ := apart_loop (c := cap) (cp := cp) hx hg hk15 hr (layF (tabOf rows) F id).pl.length 0 (G ++ Y1 ++ Y2 ++ Y3) (by omega) (((ht.app _).app _).app _) (by rw [he]; exact rapp (rapp (rapp hC _) _) _)
     have al := hr.al
     have lo := hr.lo
     have hi := hr.hi
     have md := hr.md
     have mt : (layF (tabOf rows) F id).size.tmod (layF (tabOf rows) F id).align = 0 := by rw [Int.tmod_eq_emod_of_nonneg (by omega)]; exact md
     have e1 : ¬ (layF (tabOf rows) F id).align < 1 := by omega
     have e2 : ¬ (layF (tabOf rows) F id).size < 1 := by omega
     have e3 : ¬ 16384 < (layF (tabOf rows) F id).size := by omega
     have e4 : ¬ (layF (tabOf rows) F id).align = 0 := by omega
     have e5 : 1 ≤ (layF (tabOf rows) F id).align := by omega
     simp only [Int.natCast_zero] at lp
     generalize plRows (layF (tabOf rows) F id).pl = PL at *
     generalize layF (tabOf rows) F id = le at *
     generalize rows.map trow = X at *
     clear hcap hsz hlen k1 hat hx he hl ht hC hkind hk p1 hrS h0 q1 q2 q3 hg hk15 hr al md
     simp only [List.append_assoc] at *
     repeat (any_goals first | simp (dsimp := false) (maxSteps := 4000000) (maxDischargeDepth := 8) (implicitDefEqProofs := false) [*, -Int.not_le, -Int.not_lt, amLt, f4c, f4r0, f4r1, f4r2, f4r3, f4r4, f4r5, f4r6, f4r7, f4r8, f4r9, f4m12, f4m23, f4q17, f4r10, f4r11, f4r12, f4r13, f4r14, f4r15, f4r16, f4r18, f4r20, f4r21, f4r22, f4r23, f4r24, f4r25, f4r26, f4r27, f4r28, f4r29, f4l12_b, f4l23_b, f4r17_u, f4r17_w] | with_reducible refine ch_both (fun _ => ?_) (fun _ => ?_) | with_reducible refine ite_both (fun _ => ?_) (fun _ => ?_) | intro _)
   ·rw [if_neg h0] at p1 p2 s1 a1
    replace p1 := p1 h0
    generalize begE (tabOf rows) F id = e at *
    generalize rows.map trow = X at *
    clear hcap hsz hlen k1 hat hx he hl ht hC hkind hk p2 hrS
    simp only [List.append_assoc] at *
    repeat (any_goals first | simp (dsimp := false) (maxSteps := 4000000) (maxDischargeDepth := 8) (implicitDefEqProofs := false) [*, -Int.not_le, -Int.not_lt, amLt, f4c, f4r0, f4r1, f4r2, f4r3, f4r4, f4r5, f4r6, f4r7, f4r8, f4r9, f4m12, f4m23, f4q17, f4r10, f4r11, f4r12, f4r13, f4r14, f4r15, f4r16, f4r18, f4r20, f4r21, f4r22, f4r23, f4r24, f4r25, f4r26, f4r27, f4r28, f4r29, f4l12_b, f4l23_b, f4r17_u, f4r17_w] | with_reducible refine ch_both (fun _ => ?_) (fun _ => ?_) | with_reducible refine ite_both (fun _ => ?_) (fun _ => ?_) | intro _)
  ·rw [show decide (kindS rows id = 15 ∨ kindS rows id = 16) = false by simpa using hk] at hrec
   generalize rows.map trow = X at *
   clear hcap hsz hlen k1 hat hx he hl ht hC hkind hk
   repeat (any_goals first | simp (dsimp := false) (maxSteps := 4000000) (maxDischargeDepth := 8) (implicitDefEqProofs := false) [*, -Int.not_le, -Int.not_lt, amLt, f4c, f4r0, f4r1, f4r2, f4r3, f4r4, f4r5, f4r6, f4r7, f4r8, f4r9, f4m12, f4m23, f4q17, f4r10, f4r11, f4r12, f4r13, f4r14, f4r15, f4r16, f4r18, f4r20, f4r21, f4r22, f4r23, f4r24, f4r25, f4r26, f4r27, f4r28, f4r29, f4l12_b, f4l23_b, f4r17_u, f4r17_w] | with_reducible refine ch_both (fun _ => ?_) (fun _ => ?_) | with_reducible refine ite_both (fun _ => ?_) (fun _ => ?_) | intro _)
 ·generalize rows.map trow = X at *
  clear hcap hsz hlen k1
  repeat (any_goals first | simp (dsimp := false) (maxSteps := 4000000) (maxDischargeDepth := 8) (implicitDefEqProofs := false) [*, -Int.not_le, -Int.not_lt, amLt, f4c, f4r0, f4r1, f4r2, f4r3, f4r4, f4r5, f4r6, f4r7, f4r8, f4r9, f4m12, f4m23, f4q17, f4r10, f4r11, f4r12, f4r13, f4r14, f4r15, f4r16, f4r18, f4r20, f4r21, f4r22, f4r23, f4r24, f4r25, f4r26, f4r27, f4r28, f4r29, f4l12_b, f4l23_b, f4r17_u, f4r17_w] | with_reducible refine ch_both (fun _ => ?_) (fun _ => ?_) | with_reducible refine ite_both (fun _ => ?_) (fun _ => ?_) | intro _)
theorem mems_of (B : Nat) : ∀ (l : List (List AV)), (∀ r ∈ l, ∃ nm ty bits, r = [.str nm, .int .i64 ty, .int .i64 bits] ∧ nm.length ≤ B) → ∃ ms : List Mem, l = memRows ms ∧ ∀ m ∈ ms, m.1.length ≤ B := by
 intro l
 induction l with
 | nil => intro _; exact ⟨[], rfl, fun m hm => by cases hm⟩
 | cons r t ih =>
  intro h
  obtain ⟨nm, ty, bits, rfl, hn⟩ := h r List.mem_cons_self
  obtain ⟨ms, rfl, hm⟩ := ih fun q hq => h q (List.mem_cons_of_mem _ hq)
  exact ⟨(nm, ty, bits) :: ms, rfl, fun m hq => by
   rcases List.mem_cons.1 hq with rfl | hq
   ·exact hn
   ·exact hm m hq⟩
def TRok (B : Nat) (w : TR) : Prop := w.cap = .no ∧ w.tag.length ≤ B ∧ w.mem.length ≤ B ∧ ∀ m ∈ w.mem, m.1.length ≤ B
theorem rows_of (B : Nat) : ∀ (l : List (List AV)), (∀ r ∈ l, ∃ (k e n : Int) (tg : List UInt8) (ms : List (List AV)) (b : Bool), r = [.int .i64 k, .int .i64 e, .int .i64 n, .str tg, .is ms .no, .bool b] ∧ tg.length ≤ B ∧ ms.length ≤ B ∧ ∀ q ∈ ms, ∃ nm ty bits, q = [.str nm, .int .i64 ty, .int .i64 bits] ∧ nm.length ≤ B) →
  ∃ rows : List TR, l = rows.map trow ∧ ∀ w ∈ rows, TRok B w := by
 intro l
 induction l with
 | nil => intro _; exact ⟨[], rfl, fun m hm => by cases hm⟩
 | cons r t ih =>
  intro h
  obtain ⟨k, e, n, tg, ms, b, rfl, h1, h2, h3⟩ := h r List.mem_cons_self
  obtain ⟨rows, rfl, hr⟩ := ih fun q hq => h q (List.mem_cons_of_mem _ hq)
  obtain ⟨l, rfl, hl⟩ := mems_of B ms h3
  rw [memRows_len] at h2
  exact ⟨⟨k, e, n, tg, l, b, .no⟩ :: rows, rfl, fun w hq => by
   rcases List.mem_cons.1 hq with rfl | hq
   ·exact ⟨rfl, h1, h2, hl⟩
   ·exact hr w hq⟩
abbrev rowSh : Sh := .st [(.int .i64), (.int .i64), (.int .i64), .str, (.sl (.st [.str, (.int .i64), (.int .i64)])), .bool]
theorem arg_rows {B : Nat} {x : AV} (h : (Sh.sl rowSh).Arg B x) : ∃ rows : List TR, x = .is (rows.map trow) .no ∧ rows.length ≤ B ∧ ∀ w ∈ rows, TRok B w := by
 simp only [Sh.Arg, Sh.Row, RowL] at h
 obtain ⟨l, hx, hl, hr⟩ := h
 simp only [List.cons.injEq, and_true] at hx
 subst hx
 obtain ⟨rows, rfl, hw⟩ := rows_of B l fun q hq => by
  obtain ⟨_, _, rfl, ⟨k, _, rfl⟩, _, _, rfl, ⟨e, _, rfl⟩, _, _, rfl, ⟨n, _, rfl⟩, _, _, rfl, ⟨tg, ht, rfl⟩, _, _, rfl, ⟨ms, rfl, hml, hmr⟩, _, _, rfl, ⟨b, rfl⟩, rfl⟩ := hr q hq
  refine ⟨k, e, n, tg, ms, b, rfl, ht, hml, fun z hz => ?_⟩
  obtain ⟨_, _, rfl, ⟨nm, hn, rfl⟩, _, _, rfl, ⟨ty, _, rfl⟩, _, _, rfl, ⟨bits, _, rfl⟩, rfl⟩ := hmr z hz
  exact ⟨nm, ty, bits, rfl, hn⟩
 rw [List.length_map] at hl
 exact ⟨rows, rfl, hl, hw⟩
theorem arg_mems {B : Nat} {x : AV} (h : (Sh.sl (.st [.str, (.int .i64), (.int .i64)])).Arg B x) : ∃ ms : List Mem, x = .is (memRows ms) .no ∧ ms.length ≤ B ∧ ∀ m ∈ ms, m.1.length ≤ B := by
 simp only [Sh.Arg, Sh.Row, RowL] at h
 obtain ⟨l, hx, hl, hr⟩ := h
 simp only [List.cons.injEq, and_true] at hx
 subst hx
 obtain ⟨ms, rfl, hm⟩ := mems_of B l fun z hz => by
  obtain ⟨_, _, rfl, ⟨nm, hn, rfl⟩, _, _, rfl, ⟨ty, _, rfl⟩, _, _, rfl, ⟨bits, _, rfl⟩, rfl⟩ := hr z hz
  exact ⟨nm, ty, bits, rfl, hn⟩
 rw [memRows_len] at hl
 exact ⟨ms, rfl, hl, hm⟩
theorem arg_int {B : Nat} {x : AV} (h : (Sh.int .i64).Arg B x) : ∃ n : Int, x = .int .i64 n ∧ (Lit.int .i64 n).wf = true := by
 simp only [Sh.Arg, Sh.Row] at h
 obtain ⟨n, hn, hx⟩ := h
 simp only [List.cons.injEq, and_true] at hx
 exact ⟨n, hx, hn⟩
theorem trok_sz {rows : List TR} (h : ∀ w ∈ rows, TRok 1048576 w) : (∀ w ∈ rows, w.cap = .no) ∧ ∀ w ∈ rows, w.tag.length ≤ 1048576 ∧ w.mem.length ≤ 16777216 ∧ ∀ m ∈ w.mem, m.1.length ≤ 1048576 :=
 ⟨fun w hw => (h w hw).1, fun w hw => ⟨(h w hw).2.1, by have := (h w hw).2.2.1; omega, (h w hw).2.2.2⟩⟩
theorem apart_args : ∀ xs, ArgsL 1048576 f4s xs → ∃ h', Ccall tab 4 xs [] = some (.bool true, h') := by
 intro xs hxs
 obtain ⟨x, _, rfl, h1, y, _, rfl, h2, rfl⟩ := hxs
 obtain ⟨rows, rfl, hl, hw⟩ := arg_rows h1
 obtain ⟨id, rfl, _⟩ := arg_int h2
 obtain ⟨g1, g2⟩ := trok_sz hw
 exact apart_law rows .no id g1 g2 (by omega) []
end Go.Proofs.YtfhijkapcdmdnaaDoor
