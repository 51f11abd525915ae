/- What may be assigned, what may be cast; the usual conversion. -/
import Derived.Test.YtfhijkapcdmdnaaGreatDoorZc
import Derived.Test.YtfhijkapcdmdnaaGreatDoorHd
import Derived.Test.YtfhijkapcdmdnaaGreatDoorAmW
namespace Go.Proofs.YtfhijkapcdmdnaaGreatDoor
open Go.AM
set_option maxRecDepth 20000
set_option maxHeartbeats 4000000
set_option linter.unusedSimpArgs false
set_option linter.unusedVariables false
attribute [local congr] andF_cg onF_cg bthen_cg bkeep_cg bcond_cg guardV_cg putF_cg guardF_cg ite_cg stepsF_cg
attribute [local simp] Brun_skip Brun_exit Brun_ret Brun_seq Brun_cond Brun_block Brun_region bthen_normal bthen_ret bthen_exit bblock_normal bblock_ret bblock_exit bkeep_some andF_some onF_some onF_none guardF_none guardF_some guardV_tup putF_some putF_none stepsF_nil stepsF_cons upd_apply ofL_cons ofL_nil bown_normal bown_ret banswer_normal banswer_ret aresults ares List.replicate stepF_call stepF_callD stepF_move stepF_pick stepF_alloc stepF_allocV stepF_box stepF_boxV stepF_build stepF_buildSlice stepF_buildSliceV stepF_load stepF_store stepF_nilCheck stepF_bin stepF_eq stepF_un stepF_conv stepF_strId strIdV_str strIdV_int stepF_toStr stepF_toBytes stepF_fn stepF_mkSlice stepF_slice stepF_strSlice stepF_fieldAddr stepF_field stepF_idxAddr stepF_idxArr stepF_index stepF_strIndex stepF_extract stepF_len0 stepF_len1 stepF_min stepF_max stepF_append stepF_appendF appF_none appF_row stepF_mkMap stepF_mkIface stepF_lookup stepF_mapUpdate stepF_ext aext_idx aext_count aext_same cellsF newF abin_add abin_sub abin_mul abin_quo abin_rem abin_eql abin_neq abin_lss abin_leq abin_gtr abin_geq abin_and abin_or abin_xor abin_shl abin_shr abin_seql abin_sneq aun_not aun_neg aeq_bool aeq_agg eqCells_nil eqCells_int eqCells_bool eqCells_str cellsOf_agg cellsOf_int cellsOf_bool cellsOf_str cellsOf_is cellsOf_ms cellsOf_fn cellsOf_nilp cellsOf_mp cellsOf_mm cellsOf_nilm cellsOf_nili cellsOf_ifc cellsOf_ip cget_one cget_agg ev_t ev_c fillp_nil fillp_cons isSc_int isSc_bool isSc_str isSc_is isSc_ms isSc_fn isSc_mm isSc_mp isSc_ip isSc_nilp isSc_nilm isSc_nili isSc_nilf isSc_ifc splice chunk strip strip.stripL imm imm.immL Areify_int Areify_bool Areify_str Areify_is Areify_nilp Areify_tup Areify_agg AreifyL andF_chi andF_ch onF_chi onF_ch bthen_ch bthen_chi bblock_ch bblock_chi bkeep_ch bkeep_chi bown_ch bown_chi banswer_ch banswer_chi isSome_ch bcond_ch guardV_ch1 guardV_ch0 chF_true chF_false chF_not
attribute [local simp ↓] andF_some andF_chi andF_ch onF_some onF_none onF_chi onF_ch bthen_normal bthen_ret bthen_exit bthen_ch bthen_chi bblock_normal bblock_ret bblock_exit bblock_ch bblock_chi bkeep_some bkeep_ch bkeep_chi bown_normal bown_ret bown_ch bown_chi banswer_normal banswer_ret banswer_ch banswer_chi bcond_ch guardV_ch1 guardV_ch0 guardV_tup guardF_none guardF_some putF_some putF_none stepsF_nil stepsF_cons chF_true chF_false Brun_seq Brun_cond Brun_block Brun_region Brun_skip Brun_ret Brun_exit stepF_call stepF_callD stepF_move stepF_pick stepF_alloc stepF_allocV stepF_box stepF_boxV stepF_build stepF_buildSlice stepF_buildSliceV stepF_load stepF_store stepF_nilCheck stepF_bin stepF_eq stepF_un stepF_conv stepF_strId stepF_toStr stepF_toBytes stepF_fn stepF_mkSlice stepF_slice stepF_strSlice stepF_fieldAddr stepF_field stepF_idxAddr stepF_idxArr stepF_index stepF_strIndex stepF_extract stepF_len0 stepF_len1 stepF_min stepF_max stepF_append stepF_appendF stepF_mkMap stepF_mkIface stepF_lookup stepF_mapUpdate stepF_ext
set_option maxHeartbeats 4000000
theorem getT_some {rows : List TR} {id : Int} {r : TR} (h : getT rows id = some r) : 0 ≤ id ∧ rows[id.toNat]? = some r := by
 unfold getT at h
 split at h
 ·rename_i h0; exact ⟨h0, h⟩
 ·cases h
section
variable {H : Heap} {T R M cap : Nat} {ex : Bool} {rows : List TR}
theorem len_ok (ht : TabAt H T R M cap ex rows) : Ccall tab 63 [.mp T 0] H = some (.int .i64 rows.length, H) := by
 have ha := alive_ok ht.t0
 have hT := ht.t0
 refine Ccall_over rfl rfl rfl rfl ?_
 clear ht
 repeat (any_goals first | simp (dsimp := false) (maxSteps := 4000000) (maxDischargeDepth := 8) (implicitDefEqProofs := false) [*, -Int.not_le, -Int.not_lt, amLt, f63c, f63r0, f63r1, f63r2, f63r3] | with_reducible refine ch_both (fun _ => ?_) (fun _ => ?_) | with_reducible refine ite_both (fun _ => ?_) (fun _ => ?_) | intro _)
theorem trow_ok (ht : TabAt H T R M cap ex rows) {id : Int} {r : TR} (hg : getT rows id = some r) (hl : r.mem.length ≤ 16777216) :
  Ccall tab 71 [.mp T 0, .int .i64 id] H = some (.tup [.agg (trow (eraseT r)), .bool true], H ++ [.cells (trow (eraseT r))]) := by
 obtain ⟨h0, hi⟩ := getT_some hg
 have hh : hasS rows id = true := by unfold hasS; rw [hg]; rfl
 have hb := fun x => has_ok (ht.app x).t0 id
 rw [hh] at hb
 have hlt := (List.getElem?_eq_some_iff.1 hi).1
 have h1 : id < rows.length := by omega
 have hrow := cells_row hi
 have hcl := cells_len rows
 have hle : id.toNat * 6 + 6 ≤ (cellsT rows).length := by omega
 have htw := fun h => twin_ok h r hl
 have hT := ht.t
 have hR := ht.r
 have hww : trow { r with cap := .no } = trow (eraseT r) := rfl
 rw [hww] at htw
 have hln : (trow (eraseT r)).length = 6 := rfl
 have hsc : (trow (eraseT r)).all isSc = true := rfl
 have hsc2 : ∃ a0 a1 a2 a3 a4 a5, trow (eraseT r) = [a0, a1, a2, a3, a4, a5] ∧ isSc a0 = true ∧ isSc a1 = true ∧ isSc a2 = true ∧ isSc a3 = true ∧ isSc a4 = true ∧ isSc a5 = true := ⟨_, _, _, _, _, _, rfl, rfl, rfl, rfl, rfl, rfl, rfl⟩
 obtain ⟨a0, a1, a2, a3, a4, a5, ea, c0, c1, c2, c3, c4, c5⟩ := hsc2
 rw [ea] at htw ⊢
 generalize cellsT rows = ct at *
 generalize trow r = R0 at *
 refine Ccall_over rfl rfl rfl rfl ?_
 clear ht hg hi hh hlt hcl hl hww hln hsc ea
 repeat (any_goals first | simp (dsimp := false) (maxSteps := 4000000) (maxDischargeDepth := 8) (implicitDefEqProofs := false) [*, -Int.not_le, -Int.not_lt, amLt, f71c, f71r0, f71r1, f71r2, f71r3, app_get, app_get0, app_set, app_set0] | with_reducible refine ch_both (fun _ => ?_) (fun _ => ?_) | with_reducible refine ite_both (fun _ => ?_) (fun _ => ?_) | intro _)
end
theorem basicR_erase (i : Nat) (r : TR) : basicR i (eraseT r) = basicR i r := rfl
theorem shapedR_erase (i : Nat) (r : TR) : shapedR i (eraseT r) = shapedR i r := rfl
theorem deps_erase (r : TR) : deps (eraseT r) = deps r := rfl
theorem twice_erase (t : List TR) (i : Nat) (r : TR) : twiceS (t.map eraseT) i (eraseT r) = twiceS t i r := by
 unfold twiceS
 rw [← List.map_take, List.any_map]
 rfl
theorem acc_erase {t : List TR} (h : AccP (t.map eraseT)) : AccP t := by
 have hl : (t.map eraseT).length = t.length := List.length_map ..
 have get : ∀ (i : Nat) (r : TR), t[i]? = some r → (t.map eraseT)[i]? = some (eraseT r) := fun i r hi => by rw [List.getElem?_map, hi]; rfl
 have mem : ∀ r ∈ t, eraseT r ∈ t.map eraseT := fun r hr => List.mem_map.2 ⟨r, hr, rfl⟩
 refine ⟨by rw [← hl]; exact h.lo, by rw [← hl]; exact h.hi, fun i r hi hlt => ?_, fun i r hi hge => ?_, fun r hr hk => ?_, fun r hr hd => ?_, ?_⟩
 ·rw [← basicR_erase]; exact h.basic i _ (get i r hi) hlt
 ·rw [← shapedR_erase, ← twice_erase]; exact h.row i _ (get i r hi) hge
 ·have := h.whole _ (mem r hr) hk
  rw [whole_erase] at this; exact this
 ·have := h.mems _ (mem r hr) hd
  rw [whole_erase, kind_erase, has_erase] at this; exact this
 ·obtain ⟨rho, hr⟩ := h.rank
  refine ⟨rho, fun i w hi d hd => ?_⟩
  have := hr i _ (get i w hi) d hd
  rw [hl] at this; exact this
theorem mems_of (B : Nat) : ∀ (l : List (List AV)), (∀ r ∈ l, ∃ nm ty bits, r = [.str nm, .int .i64 ty, .int .i64 bits] ∧ nm.length ≤ B) → ∃ ms : List Mem, l = memRows ms ∧ ∀ m ∈ ms, m.1.length ≤ B := by
 intro l
 induction l with
 | nil => intro _; exact ⟨[], rfl, fun m hm => by cases hm⟩
 | cons r t ih =>
  intro h
  obtain ⟨nm, ty, bits, rfl, hn⟩ := h r List.mem_cons_self
  obtain ⟨ms, rfl, hm⟩ := ih fun q hq => h q (List.mem_cons_of_mem _ hq)
  exact ⟨(nm, ty, bits) :: ms, rfl, fun m hq => by
   rcases List.mem_cons.1 hq with rfl | hq
   ·exact hn
   ·exact hm m hq⟩
def TRok (B : Nat) (w : TR) : Prop := w.cap = .no ∧ w.tag.length ≤ B ∧ w.mem.length ≤ B ∧ ∀ m ∈ w.mem, m.1.length ≤ B
theorem rows_of (B : Nat) : ∀ (l : List (List AV)), (∀ r ∈ l, ∃ (k e n : Int) (tg : List UInt8) (ms : List (List AV)) (b : Bool), r = [.int .i64 k, .int .i64 e, .int .i64 n, .str tg, .is ms .no, .bool b] ∧ tg.length ≤ B ∧ ms.length ≤ B ∧ ∀ q ∈ ms, ∃ nm ty bits, q = [.str nm, .int .i64 ty, .int .i64 bits] ∧ nm.length ≤ B) →
  ∃ rows : List TR, l = rows.map trow ∧ ∀ w ∈ rows, TRok B w := by
 intro l
 induction l with
 | nil => intro _; exact ⟨[], rfl, fun m hm => by cases hm⟩
 | cons r t ih =>
  intro h
  obtain ⟨k, e, n, tg, ms, b, rfl, h1, h2, h3⟩ := h r List.mem_cons_self
  obtain ⟨rows, rfl, hr⟩ := ih fun q hq => h q (List.mem_cons_of_mem _ hq)
  obtain ⟨l, rfl, hl⟩ := mems_of B ms h3
  rw [memRows_len] at h2
  exact ⟨⟨k, e, n, tg, l, b, .no⟩ :: rows, rfl, fun w hq => by
   rcases List.mem_cons.1 hq with rfl | hq
   ·exact ⟨rfl, h1, h2, hl⟩
   ·exact hr w hq⟩
abbrev rowSh : Sh := .st [(.int .i64), (.int .i64), (.int .i64), .str, (.sl (.st [.str, (.int .i64), (.int .i64)])), .bool]
theorem arg_rows {B : Nat} {x : AV} (h : (Sh.sl rowSh).Arg B x) : ∃ rows : List TR, x = .is (rows.map trow) .no ∧ rows.length ≤ B ∧ ∀ w ∈ rows, TRok B w := by
 simp only [Sh.Arg, Sh.Row, RowL] at h
 obtain ⟨l, hx, hl, hr⟩ := h
 simp only [List.cons.injEq, and_true] at hx
 subst hx
 obtain ⟨rows, rfl, hw⟩ := rows_of B l fun q hq => by
  obtain ⟨_, _, rfl, ⟨k, _, rfl⟩, _, _, rfl, ⟨e, _, rfl⟩, _, _, rfl, ⟨n, _, rfl⟩, _, _, rfl, ⟨tg, ht, rfl⟩, _, _, rfl, ⟨ms, rfl, hml, hmr⟩, _, _, rfl, ⟨b, rfl⟩, rfl⟩ := hr q hq
  refine ⟨k, e, n, tg, ms, b, rfl, ht, hml, fun z hz => ?_⟩
  obtain ⟨_, _, rfl, ⟨nm, hn, rfl⟩, _, _, rfl, ⟨ty, _, rfl⟩, _, _, rfl, ⟨bits, _, rfl⟩, rfl⟩ := hmr z hz
  exact ⟨nm, ty, bits, rfl, hn⟩
 rw [List.length_map] at hl
 exact ⟨rows, rfl, hl, hw⟩
theorem arg_mems {B : Nat} {x : AV} (h : (Sh.sl (.st [.str, (.int .i64), (.int .i64)])).Arg B x) : ∃ ms : List Mem, x = .is (memRows ms) .no ∧ ms.length ≤ B ∧ ∀ m ∈ ms, m.1.length ≤ B := by
 simp only [Sh.Arg, Sh.Row, RowL] at h
 obtain ⟨l, hx, hl, hr⟩ := h
 simp only [List.cons.injEq, and_true] at hx
 subst hx
 obtain ⟨ms, rfl, hm⟩ := mems_of B l fun z hz => by
  obtain ⟨_, _, rfl, ⟨nm, hn, rfl⟩, _, _, rfl, ⟨ty, _, rfl⟩, _, _, rfl, ⟨bits, _, rfl⟩, rfl⟩ := hr z hz
  exact ⟨nm, ty, bits, rfl, hn⟩
 rw [memRows_len] at hl
 exact ⟨ms, rfl, hl, hm⟩
theorem arg_int {B : Nat} {x : AV} (h : (Sh.int .i64).Arg B x) : ∃ n : Int, x = .int .i64 n ∧ (Lit.int .i64 n).wf = true := by
 simp only [Sh.Arg, Sh.Row] at h
 obtain ⟨n, hn, hx⟩ := h
 simp only [List.cons.injEq, and_true] at hx
 exact ⟨n, hx, hn⟩
theorem trok_sz {rows : List TR} (h : ∀ w ∈ rows, TRok 1048576 w) : (∀ w ∈ rows, w.cap = .no) ∧ ∀ w ∈ rows, w.tag.length ≤ 1048576 ∧ w.mem.length ≤ 16777216 ∧ ∀ m ∈ w.mem, m.1.length ≤ 1048576 :=
 ⟨fun w hw => (h w hw).1, fun w hw => ⟨(h w hw).2.1, by have := (h w hw).2.2.1; omega, (h w hw).2.2.2⟩⟩
def integerK (k : Int) : Bool := decide (2 ≤ k) && decide (k ≤ 12)
theorem integer_ok (h : Heap) (k : Int) : Ccall tab 38 [.int .i64 k] h = some (.bool (integerK k), h) := by
 refine Ccall_own rfl rfl rfl rfl ?_
 repeat (any_goals first | simp (dsimp := false) (maxSteps := 4000000) (maxDischargeDepth := 8) (implicitDefEqProofs := false) [*, -Int.not_le, -Int.not_lt, amLt, f38c, f38r0, f38r1, integerK] | with_reducible refine ch_both (fun _ => ?_) (fun _ => ?_) | with_reducible refine ite_both (fun _ => ?_) (fun _ => ?_) | intro _)
def promote (k b : Int) : Int := if integerK k = true then (if (0 ≤ b ∧ b ≤ 31) ∨ k ≤ 7 ∨ k = 12 then 8 else k) else k
theorem promote_ok (h : Heap) (k b : Int) : Ccall tab 12 [.int .i64 k, .int .i64 b] h = some (.int .i64 (promote k b), h) := by
 refine Ccall_own rfl rfl rfl rfl ?_
 repeat (any_goals first | simp (dsimp := false) (maxSteps := 4000000) (maxDischargeDepth := 8) (implicitDefEqProofs := false) [*, -Int.not_le, -Int.not_lt, amLt, f12c, f12r0, f12r1, f12r2, f12r3, f12r4, f12r5, f12r6, integer_ok, promote] | with_reducible refine ch_both (fun _ => ?_) (fun _ => ?_) | with_reducible refine ite_both (fun _ => ?_) (fun _ => ?_) | intro _)
theorem is_ok (k a b : Int) : Ccall tab 39 [.int .i64 k, .mp 0 0, .mp 1 0] [.cells [.int .i64 a], .cells [.int .i64 b]] = some (.bool (decide (a = k) || decide (b = k)), [.cells [.int .i64 a], .cells [.int .i64 b]]) := by
 refine Ccall_over rfl rfl rfl rfl ?_
 repeat (any_goals first | simp (dsimp := false) (maxSteps := 4000000) (maxDischargeDepth := 8) (implicitDefEqProofs := false) [*, -Int.not_le, -Int.not_lt, amLt, f39c, f39r0, f39r1] | with_reducible refine ch_both (fun _ => ?_) (fun _ => ?_) | with_reducible refine ite_both (fun _ => ?_) (fun _ => ?_) | intro _)
def usual (a b : Int) : Int × Int :=
 if integerK a = true ∧ integerK b = true then
  (let x := promote a (-1); let y := promote b (-1)
  (if x = 11 ∨ y = 11 then 11 else if (x = 10 ∧ y = 9) ∨ (x = 9 ∧ y = 10) then 11 else if x = 10 ∨ y = 10 then 10 else if x = 9 ∨ y = 9 then 9 else 8, 0))
 else (0, 70)
theorem usual_ok (h : Heap) (a b : Int) : Ccall tab 9 [.int .i64 a, .int .i64 b] h = some (.tup [.int .i64 (usual a b).1, .int .i64 (usual a b).2], h) := by
 refine Ccall_own rfl rfl rfl rfl ?_
 unfold usual
 generalize ha : integerK a = p
 generalize hb : integerK b = q
 generalize hx : promote a (-1) = x
 generalize hy : promote b (-1) = y
 repeat (any_goals first | simp (dsimp := false) (maxSteps := 4000000) (maxDischargeDepth := 8) (implicitDefEqProofs := false) [*, -Int.not_le, -Int.not_lt, amLt, f9c, f9q3, f9r0, f9r1, f9r2, f9r4, f9r5, f9r6, f9r7, f9r8, f9r9, f12_p, f9r10, f9r11, f9r12, f9r3_u, f9r3_w, integer_ok, promote_ok, is_ok] | with_reducible refine ch_both (fun _ => ?_) (fun _ => ?_) | with_reducible refine ite_both (fun _ => ?_) (fun _ => ?_) | intro _)
 all_goals omega
theorem rowk_ok (h : Heap) (k : Int) (hk : 0 ≤ k ∧ k ≤ 100) : Ccall tab 57 [.int .i64 k] h = some (.int .i64 (k - 1), h) := by
 have w : IntKind.i64.wrap (k - 1) = k - 1 := IntWalk.i64_in _ (by omega)
 refine Ccall_own rfl rfl rfl rfl ?_
 clear hk
 repeat (any_goals first | simp (dsimp := false) (maxSteps := 4000000) (maxDischargeDepth := 8) (implicitDefEqProofs := false) [*, -Int.not_le, -Int.not_lt, amLt, f57c, f57r0, f57r1] | with_reducible refine ch_both (fun _ => ?_) (fun _ => ?_) | with_reducible refine ite_both (fun _ => ?_) (fun _ => ?_) | intro _)
section
variable {H : Heap} {T R M cap : Nat} {ex : Bool} {t : List TR}
def rowY (T : Nat) (r : TR) : Heap := [.cells [.mp T 0], .cells (trow (eraseT r)), .cells (trow (eraseT r)), .cells (trow (eraseT r))]
def kindY (T : Nat) (r : TR) : Heap := .cells [.mp T 0] :: rowY T r
def intY (T : Nat) (r : TR) : Heap := .cells [.mp T 0] :: kindY T r
theorem arow_ok (ht : TabAt H T R M cap ex t) {id : Int} {r : TR} (hg : getT t id = some r) (hl : r.mem.length ≤ 16777216) :
  Ccall tab 41 [.agg [.mp T 0], .int .i64 id] H = some (.agg (trow (eraseT r)), H ++ rowY T r) := by
 have h1 := fun x => trow_ok (ht.app x) hg hl
 unfold rowY
 have hsc2 : ∃ a0 a1 a2 a3 a4 a5, trow (eraseT r) = [a0, a1, a2, a3, a4, a5] ∧ isSc a0 = true ∧ isSc a1 = true ∧ isSc a2 = true ∧ isSc a3 = true ∧ isSc a4 = true ∧ isSc a5 = true := ⟨_, _, _, _, _, _, rfl, rfl, rfl, rfl, rfl, rfl, rfl⟩
 obtain ⟨a0, a1, a2, a3, a4, a5, ea, c0, c1, c2, c3, c4, c5⟩ := hsc2
 rw [ea] at h1 ⊢
 refine Ccall_over rfl rfl rfl rfl ?_
 clear ht hg hl ea
 repeat (any_goals first | simp (dsimp := false) (maxSteps := 4000000) (maxDischargeDepth := 8) (implicitDefEqProofs := false) [*, -Int.not_le, -Int.not_lt, amLt, f41c, f41r0, f41r1, f41r2, app_get, app_get0, app_set, app_set0] | with_reducible refine ch_both (fun _ => ?_) (fun _ => ?_) | with_reducible refine ite_both (fun _ => ?_) (fun _ => ?_) | intro _)
theorem akind_ok (ht : TabAt H T R M cap ex t) {id : Int} {r : TR} (hg : getT t id = some r) (hl : r.mem.length ≤ 16777216) :
  Ccall tab 44 [.agg [.mp T 0], .int .i64 id] H = some (.int .i64 r.kind, H ++ kindY T r) := by
 have h1 := fun x => arow_ok (ht.app x) hg hl
 unfold kindY
 refine Ccall_over rfl rfl rfl rfl ?_
 unfold trow eraseT at h1
 clear ht hg hl
 repeat (any_goals first | simp (dsimp := false) (maxSteps := 4000000) (maxDischargeDepth := 8) (implicitDefEqProofs := false) [*, -Int.not_le, -Int.not_lt, amLt, f44c, f44r0, f44r1, app_get, app_get0, app_set, app_set0] | with_reducible refine ch_both (fun _ => ?_) (fun _ => ?_) | with_reducible refine ite_both (fun _ => ?_) (fun _ => ?_) | intro _)
theorem aint_ok (ht : TabAt H T R M cap ex t) {id : Int} {r : TR} (hg : getT t id = some r) (hl : r.mem.length ≤ 16777216) :
  Ccall tab 42 [.agg [.mp T 0], .int .i64 id] H = some (.bool (integerK r.kind), H ++ intY T r) := by
 have h1 := fun x => akind_ok (ht.app x) hg hl
 unfold intY
 refine Ccall_over rfl rfl rfl rfl ?_
 clear ht hg hl
 repeat (any_goals first | simp (dsimp := false) (maxSteps := 4000000) (maxDischargeDepth := 8) (implicitDefEqProofs := false) [*, -Int.not_le, -Int.not_lt, amLt, f42c, f42r0, f42r1, app_get, app_get0, app_set, app_set0, integer_ok] | with_reducible refine ch_both (fun _ => ?_) (fun _ => ?_) | with_reducible refine ite_both (fun _ => ?_) (fun _ => ?_) | intro _)
theorem aptr_ok (ht : TabAt H T R M cap ex t) {id : Int} {r : TR} (hg : getT t id = some r) (hl : r.mem.length ≤ 16777216) :
  Ccall tab 45 [.agg [.mp T 0], .int .i64 id] H = some (.bool (decide (r.kind = 13)), H ++ intY T r) := by
 have h1 := fun x => akind_ok (ht.app x) hg hl
 unfold intY
 refine Ccall_over rfl rfl rfl rfl ?_
 clear ht hg hl
 repeat (any_goals first | simp (dsimp := false) (maxSteps := 4000000) (maxDischargeDepth := 8) (implicitDefEqProofs := false) [*, -Int.not_le, -Int.not_lt, amLt, f45c, f45r0, f45r1, app_get, app_get0, app_set, app_set0] | with_reducible refine ch_both (fun _ => ?_) (fun _ => ?_) | with_reducible refine ite_both (fun _ => ?_) (fun _ => ?_) | intro _)
def anyB (r : TR) : Bool := decide (r.kind = 13) && decide (r.elem = 0)
def anyY (T : Nat) (r : TR) : Heap := .cells [.mp T 0] :: (intY T r ++ if r.kind = 13 then rowY T r else [])
theorem any_ok (ht : TabAt H T R M cap ex t) {id : Int} {r : TR} (hg : getT t id = some r) (hl : r.mem.length ≤ 16777216) :
  Ccall tab 59 [.agg [.mp T 0], .int .i64 id] H = some (.bool (anyB r), H ++ anyY T r) := by
 have h1 := fun x => aptr_ok (ht.app x) hg hl
 have h2 := fun x => arow_ok (ht.app x) hg hl
 have h3 := fun h => rowk_ok h 1 (by omega)
 have e1 : (1 : Int) - 1 = 0 := rfl
 rw [e1] at h3
 unfold anyY anyB
 unfold trow eraseT at h2
 refine Ccall_over rfl rfl rfl rfl ?_
 clear ht hg hl
 by_cases c : r.kind = 13
 ·repeat (any_goals first | simp (dsimp := false) (maxSteps := 4000000) (maxDischargeDepth := 8) (implicitDefEqProofs := false) [*, -Int.not_le, -Int.not_lt, amLt, f59c, f59r0, f59r1, app_get, app_get0, app_set, app_set0] | with_reducible refine ch_both (fun _ => ?_) (fun _ => ?_) | with_reducible refine ite_both (fun _ => ?_) (fun _ => ?_) | intro _)
 ·repeat (any_goals first | simp (dsimp := false) (maxSteps := 4000000) (maxDischargeDepth := 8) (implicitDefEqProofs := false) [*, -Int.not_le, -Int.not_lt, amLt, f59c, f59r0, f59r1, app_get, app_get0, app_set, app_set0] | with_reducible refine ch_both (fun _ => ?_) (fun _ => ?_) | with_reducible refine ite_both (fun _ => ?_) (fun _ => ?_) | intro _)
end
section
variable {H : Heap} {T R M cap : Nat} {ex : Bool} {t : List TR}
def alikeB (a b : Int) (ra rb : TR) : Bool := decide (ra.kind = 13) && decide (rb.kind = 13) && (decide (a = b) || anyB ra || anyB rb)
def alikeY (T : Nat) (a b : Int) (ra rb : TR) : Heap :=
 .cells [.mp T 0] :: (intY T ra ++ if ra.kind = 13 then intY T rb ++ (if rb.kind = 13 then (if a = b then [] else anyY T ra ++ (if anyB ra = true then [] else anyY T rb)) else []) else [])
theorem alike_ok (ht : TabAt H T R M cap ex t) {a b : Int} {ra rb : TR} (ha : getT t a = some ra) (la : ra.mem.length ≤ 16777216) (hb : getT t b = some rb) (lb : rb.mem.length ≤ 16777216) :
  Ccall tab 43 [.agg [.mp T 0], .int .i64 a, .int .i64 b] H = some (.bool (alikeB a b ra rb), H ++ alikeY T a b ra rb) := by
 have h1 := fun x => aptr_ok (ht.app x) ha la
 have h2 := fun x => aptr_ok (ht.app x) hb lb
 have h3 := fun x => any_ok (ht.app x) ha la
 have h4 := fun x => any_ok (ht.app x) hb lb
 have hab : a = b → ra = rb := fun e => by subst e; rw [ha] at hb; exact Option.some.inj hb
 unfold alikeY alikeB
 refine Ccall_over rfl rfl rfl rfl ?_
 clear ht ha hb la lb
 generalize anyB ra = p at *
 generalize anyB rb = q at *
 by_cases c1 : ra.kind = 13
 ·by_cases c2 : rb.kind = 13
  ·by_cases c3 : a = b
   ·have e : ra = rb := hab c3
    subst e
    subst c3
    repeat (any_goals first | simp (dsimp := false) (maxSteps := 4000000) (maxDischargeDepth := 8) (implicitDefEqProofs := false) [*, -Int.not_le, -Int.not_lt, amLt, f43c, f43r0, f43r1, app_get, app_get0, app_set, app_set0] | with_reducible refine ch_both (fun _ => ?_) (fun _ => ?_) | with_reducible refine ite_both (fun _ => ?_) (fun _ => ?_) | intro _)
   ·cases p <;> cases q
    ·repeat (any_goals first | simp (dsimp := false) (maxSteps := 4000000) (maxDischargeDepth := 8) (implicitDefEqProofs := false) [*, -Int.not_le, -Int.not_lt, amLt, f43c, f43r0, f43r1, app_get, app_get0, app_set, app_set0] | with_reducible refine ch_both (fun _ => ?_) (fun _ => ?_) | with_reducible refine ite_both (fun _ => ?_) (fun _ => ?_) | intro _)
    ·repeat (any_goals first | simp (dsimp := false) (maxSteps := 4000000) (maxDischargeDepth := 8) (implicitDefEqProofs := false) [*, -Int.not_le, -Int.not_lt, amLt, f43c, f43r0, f43r1, app_get, app_get0, app_set, app_set0] | with_reducible refine ch_both (fun _ => ?_) (fun _ => ?_) | with_reducible refine ite_both (fun _ => ?_) (fun _ => ?_) | intro _)
    ·repeat (any_goals first | simp (dsimp := false) (maxSteps := 4000000) (maxDischargeDepth := 8) (implicitDefEqProofs := false) [*, -Int.not_le, -Int.not_lt, amLt, f43c, f43r0, f43r1, app_get, app_get0, app_set, app_set0] | with_reducible refine ch_both (fun _ => ?_) (fun _ => ?_) | with_reducible refine ite_both (fun _ => ?_) (fun _ => ?_) | intro _)
    ·repeat (any_goals first | simp (dsimp := false) (maxSteps := 4000000) (maxDischargeDepth := 8) (implicitDefEqProofs := false) [*, -Int.not_le, -Int.not_lt, amLt, f43c, f43r0, f43r1, app_get, app_get0, app_set, app_set0] | with_reducible refine ch_both (fun _ => ?_) (fun _ => ?_) | with_reducible refine ite_both (fun _ => ?_) (fun _ => ?_) | intro _)
  ·repeat (any_goals first | simp (dsimp := false) (maxSteps := 4000000) (maxDischargeDepth := 8) (implicitDefEqProofs := false) [*, -Int.not_le, -Int.not_lt, amLt, f43c, f43r0, f43r1, app_get, app_get0, app_set, app_set0] | with_reducible refine ch_both (fun _ => ?_) (fun _ => ?_) | with_reducible refine ite_both (fun _ => ?_) (fun _ => ?_) | intro _)
 ·repeat (any_goals first | simp (dsimp := false) (maxSteps := 4000000) (maxDischargeDepth := 8) (implicitDefEqProofs := false) [*, -Int.not_le, -Int.not_lt, amLt, f43c, f43r0, f43r1, app_get, app_get0, app_set, app_set0] | with_reducible refine ch_both (fun _ => ?_) (fun _ => ?_) | with_reducible refine ite_both (fun _ => ?_) (fun _ => ?_) | intro _)
theorem look2_ok (ht : TabAt H T R M cap ex t) {a b : Int} {ra rb : TR} (ha : getT t a = some ra) (hb : getT t b = some rb) (c : Cap) :
  Ccall tab 40 [.mp T 0, .is [[.int .i64 a], [.int .i64 b]] c] H = some (.int .i64 0, H) := by
 have h1 := len_ok ht
 have w1 : IntKind.i64.wrap 1 = 1 := by decide
 have w2 : IntKind.i64.wrap 2 = 2 := by decide
 obtain ⟨a0, ai⟩ := getT_some ha
 obtain ⟨b0, bi⟩ := getT_some hb
 have la := (List.getElem?_eq_some_iff.1 ai).1
 have lb := (List.getElem?_eq_some_iff.1 bi).1
 have a1 : ¬ (t.length : Int) ≤ a := by omega
 have b1 : ¬ (t.length : Int) ≤ b := by omega
 have a2 : ¬ a < 0 := by omega
 have b2 : ¬ b < 0 := by omega
 have n0 : ¬ (t.length : Int) = 0 := by omega
 have n0' : ¬ t.length = 0 := by omega
 generalize t.length = n at *
 refine Ccall_over rfl rfl rfl rfl ?_
 clear ht ha hb ai bi la lb
 repeat (any_goals first | simp (dsimp := false) (maxSteps := 4000000) (maxDischargeDepth := 8) (implicitDefEqProofs := false) [*, -Int.not_le, -Int.not_lt, amLt, f40c, f40m4, f40r0, f40r1, f40r2, f40r3, f40r4, f40r5, f40r6, f40r7, f40r8, f40r9, f40l4_b, app_get, app_get0, app_set, app_set0, Brun_loop] | with_reducible refine ch_both (fun _ => ?_) (fun _ => ?_) | with_reducible refine ite_both (fun _ => ?_) (fun _ => ?_) | intro _)
def assignS (a b : Int) (ra rb : TR) : Int := if (integerK ra.kind && integerK rb.kind) || alikeB a b ra rb || (decide (a = b) && ra.done) then 0 else 70
def castS (ra rb : TR) : Int := if ra.kind = 1 ∨ (integerK ra.kind && integerK rb.kind) = true ∨ (ra.kind = 13 ∧ rb.kind = 13) ∨ (ra.kind = 2 ∧ rb.kind = 13) then 0 else 70
theorem assign_ok (ht : TabAt H T R M cap ex t) {a b : Int} {ra rb : TR} (ha : getT t a = some ra) (la : ra.mem.length ≤ 16777216) (hb : getT t b = some rb) (lb : rb.mem.length ≤ 16777216) :
  ∃ Y, Ccall tab 14 [.mp T 0, .int .i64 a, .int .i64 b] H = some (.int .i64 (assignS a b ra rb), H ++ Y) := by
 have h0 := look2_ok ht ha hb
 have h1 := fun x => arow_ok (ht.app x) ha la
 have h2 := fun x => aint_ok (ht.app x) ha la
 have h3 := fun x => aint_ok (ht.app x) hb lb
 have h4 := fun x => alike_ok (ht.app x) ha la hb lb
 have hab : a = b → ra = rb := fun e => by subst e; rw [ha] at hb; exact Option.some.inj hb
 unfold assignS
 generalize alikeB a b ra rb = p at *
 generalize alikeY T a b ra rb = yp at *
 generalize hq : integerK ra.kind = q at *
 generalize hw : integerK rb.kind = w at *
 refine ⟨.cells [.mp T 0] :: .cells (trow (eraseT ra)) :: (rowY T ra ++ (intY T ra ++ ((if q = true then intY T rb else []) ++ (if q = true ∧ w = true then [] else yp)))), Ccall_over rfl rfl rfl rfl ?_⟩
 unfold trow eraseT at *
 clear ht ha hb la lb
 by_cases c3 : a = b
 ·have e := hab c3
  subst e
  subst c3
  have e2 : q = w := by rw [← hq, ← hw]
  subst e2
  clear hq hw h3
  cases q <;> cases p
  ·repeat (any_goals first | simp (dsimp := false) (maxSteps := 4000000) (maxDischargeDepth := 8) (implicitDefEqProofs := false) [*, -Int.not_le, -Int.not_lt, amLt, f14c, f14r0, f14r1, f14r2, f14r3, f14r4, f14r5, f14r6, f14r7, f14r8, app_get, app_get0, app_set, app_set0] | with_reducible refine ch_both (fun _ => ?_) (fun _ => ?_) | with_reducible refine ite_both (fun _ => ?_) (fun _ => ?_) | intro _)
  ·repeat (any_goals first | simp (dsimp := false) (maxSteps := 4000000) (maxDischargeDepth := 8) (implicitDefEqProofs := false) [*, -Int.not_le, -Int.not_lt, amLt, f14c, f14r0, f14r1, f14r2, f14r3, f14r4, f14r5, f14r6, f14r7, f14r8, app_get, app_get0, app_set, app_set0] | with_reducible refine ch_both (fun _ => ?_) (fun _ => ?_) | with_reducible refine ite_both (fun _ => ?_) (fun _ => ?_) | intro _)
  ·repeat (any_goals first | simp (dsimp := false) (maxSteps := 4000000) (maxDischargeDepth := 8) (implicitDefEqProofs := false) [*, -Int.not_le, -Int.not_lt, amLt, f14c, f14r0, f14r1, f14r2, f14r3, f14r4, f14r5, f14r6, f14r7, f14r8, app_get, app_get0, app_set, app_set0] | with_reducible refine ch_both (fun _ => ?_) (fun _ => ?_) | with_reducible refine ite_both (fun _ => ?_) (fun _ => ?_) | intro _)
  ·repeat (any_goals first | simp (dsimp := false) (maxSteps := 4000000) (maxDischargeDepth := 8) (implicitDefEqProofs := false) [*, -Int.not_le, -Int.not_lt, amLt, f14c, f14r0, f14r1, f14r2, f14r3, f14r4, f14r5, f14r6, f14r7, f14r8, app_get, app_get0, app_set, app_set0] | with_reducible refine ch_both (fun _ => ?_) (fun _ => ?_) | with_reducible refine ite_both (fun _ => ?_) (fun _ => ?_) | intro _)
 ·clear hq hw
  cases q <;> cases w <;> cases p
  ·repeat (any_goals first | simp (dsimp := false) (maxSteps := 4000000) (maxDischargeDepth := 8) (implicitDefEqProofs := false) [*, -Int.not_le, -Int.not_lt, amLt, f14c, f14r0, f14r1, f14r2, f14r3, f14r4, f14r5, f14r6, f14r7, f14r8, app_get, app_get0, app_set, app_set0] | with_reducible refine ch_both (fun _ => ?_) (fun _ => ?_) | with_reducible refine ite_both (fun _ => ?_) (fun _ => ?_) | intro _)
  ·repeat (any_goals first | simp (dsimp := false) (maxSteps := 4000000) (maxDischargeDepth := 8) (implicitDefEqProofs := false) [*, -Int.not_le, -Int.not_lt, amLt, f14c, f14r0, f14r1, f14r2, f14r3, f14r4, f14r5, f14r6, f14r7, f14r8, app_get, app_get0, app_set, app_set0] | with_reducible refine ch_both (fun _ => ?_) (fun _ => ?_) | with_reducible refine ite_both (fun _ => ?_) (fun _ => ?_) | intro _)
  ·repeat (any_goals first | simp (dsimp := false) (maxSteps := 4000000) (maxDischargeDepth := 8) (implicitDefEqProofs := false) [*, -Int.not_le, -Int.not_lt, amLt, f14c, f14r0, f14r1, f14r2, f14r3, f14r4, f14r5, f14r6, f14r7, f14r8, app_get, app_get0, app_set, app_set0] | with_reducible refine ch_both (fun _ => ?_) (fun _ => ?_) | with_reducible refine ite_both (fun _ => ?_) (fun _ => ?_) | intro _)
  ·repeat (any_goals first | simp (dsimp := false) (maxSteps := 4000000) (maxDischargeDepth := 8) (implicitDefEqProofs := false) [*, -Int.not_le, -Int.not_lt, amLt, f14c, f14r0, f14r1, f14r2, f14r3, f14r4, f14r5, f14r6, f14r7, f14r8, app_get, app_get0, app_set, app_set0] | with_reducible refine ch_both (fun _ => ?_) (fun _ => ?_) | with_reducible refine ite_both (fun _ => ?_) (fun _ => ?_) | intro _)
  ·repeat (any_goals first | simp (dsimp := false) (maxSteps := 4000000) (maxDischargeDepth := 8) (implicitDefEqProofs := false) [*, -Int.not_le, -Int.not_lt, amLt, f14c, f14r0, f14r1, f14r2, f14r3, f14r4, f14r5, f14r6, f14r7, f14r8, app_get, app_get0, app_set, app_set0] | with_reducible refine ch_both (fun _ => ?_) (fun _ => ?_) | with_reducible refine ite_both (fun _ => ?_) (fun _ => ?_) | intro _)
  ·repeat (any_goals first | simp (dsimp := false) (maxSteps := 4000000) (maxDischargeDepth := 8) (implicitDefEqProofs := false) [*, -Int.not_le, -Int.not_lt, amLt, f14c, f14r0, f14r1, f14r2, f14r3, f14r4, f14r5, f14r6, f14r7, f14r8, app_get, app_get0, app_set, app_set0] | with_reducible refine ch_both (fun _ => ?_) (fun _ => ?_) | with_reducible refine ite_both (fun _ => ?_) (fun _ => ?_) | intro _)
  ·repeat (any_goals first | simp (dsimp := false) (maxSteps := 4000000) (maxDischargeDepth := 8) (implicitDefEqProofs := false) [*, -Int.not_le, -Int.not_lt, amLt, f14c, f14r0, f14r1, f14r2, f14r3, f14r4, f14r5, f14r6, f14r7, f14r8, app_get, app_get0, app_set, app_set0] | with_reducible refine ch_both (fun _ => ?_) (fun _ => ?_) | with_reducible refine ite_both (fun _ => ?_) (fun _ => ?_) | intro _)
  ·repeat (any_goals first | simp (dsimp := false) (maxSteps := 4000000) (maxDischargeDepth := 8) (implicitDefEqProofs := false) [*, -Int.not_le, -Int.not_lt, amLt, f14c, f14r0, f14r1, f14r2, f14r3, f14r4, f14r5, f14r6, f14r7, f14r8, app_get, app_get0, app_set, app_set0] | with_reducible refine ch_both (fun _ => ?_) (fun _ => ?_) | with_reducible refine ite_both (fun _ => ?_) (fun _ => ?_) | intro _)
theorem cast_ok (ht : TabAt H T R M cap ex t) {a b : Int} {ra rb : TR} (ha : getT t a = some ra) (la : ra.mem.length ≤ 16777216) (hb : getT t b = some rb) (lb : rb.mem.length ≤ 16777216) :
  ∃ Y, Ccall tab 15 [.mp T 0, .int .i64 a, .int .i64 b] H = some (.int .i64 (castS ra rb), H ++ Y) := by
 have h0 := look2_ok ht ha hb
 have h1 := fun x => akind_ok (ht.app x) ha la
 have h2 := fun x => aint_ok (ht.app x) ha la
 have h3 := fun x => aint_ok (ht.app x) hb lb
 have h4 := fun x => aptr_ok (ht.app x) ha la
 have h5 := fun x => aptr_ok (ht.app x) hb lb
 have hab : a = b → ra = rb := fun e => by subst e; rw [ha] at hb; exact Option.some.inj hb
 unfold castS
 have k2 : ra.kind = 2 → integerK ra.kind = true := fun e => by rw [e]; rfl
 have k13 : ra.kind = 13 → integerK ra.kind = false := fun e => by rw [e]; rfl
 have k1 : ra.kind = 1 → integerK ra.kind = false := fun e => by rw [e]; rfl
 by_cases e1 : ra.kind = 1
 ·refine ⟨.cells [.mp T 0] :: kindY T ra, Ccall_over rfl rfl rfl rfl ?_⟩
  clear ht ha hb la lb k2 k13 k1 hab
  repeat (any_goals first | simp (dsimp := false) (maxSteps := 4000000) (maxDischargeDepth := 8) (implicitDefEqProofs := false) [*, -Int.not_le, -Int.not_lt, amLt, f15c, f15r0, f15r1, f15r2, f15r3, f15r4, f15r5, f15r6, f15r7, f15r8, f15r9, f15r10, f15r11, app_get, app_get0, app_set, app_set0] | with_reducible refine ch_both (fun _ => ?_) (fun _ => ?_) | with_reducible refine ite_both (fun _ => ?_) (fun _ => ?_) | intro _)
 ·by_cases e13 : ra.kind = 13
  ·have q := k13 e13
   generalize hq : integerK ra.kind = q0 at *
   subst q
   generalize integerK rb.kind = w at *
   refine ⟨.cells [.mp T 0] :: (kindY T ra ++ (intY T ra ++ (intY T ra ++ intY T rb))), Ccall_over rfl rfl rfl rfl ?_⟩
   clear ht ha hb la lb k2 k13 k1 hq hab
   by_cases r13 : rb.kind = 13
   ·repeat (any_goals first | simp (dsimp := false) (maxSteps := 4000000) (maxDischargeDepth := 8) (implicitDefEqProofs := false) [*, -Int.not_le, -Int.not_lt, amLt, f15c, f15r0, f15r1, f15r2, f15r3, f15r4, f15r5, f15r6, f15r7, f15r8, f15r9, f15r10, f15r11, app_get, app_get0, app_set, app_set0] | with_reducible refine ch_both (fun _ => ?_) (fun _ => ?_) | with_reducible refine ite_both (fun _ => ?_) (fun _ => ?_) | intro _)
   ·repeat (any_goals first | simp (dsimp := false) (maxSteps := 4000000) (maxDischargeDepth := 8) (implicitDefEqProofs := false) [*, -Int.not_le, -Int.not_lt, amLt, f15c, f15r0, f15r1, f15r2, f15r3, f15r4, f15r5, f15r6, f15r7, f15r8, f15r9, f15r10, f15r11, app_get, app_get0, app_set, app_set0] | with_reducible refine ch_both (fun _ => ?_) (fun _ => ?_) | with_reducible refine ite_both (fun _ => ?_) (fun _ => ?_) | intro _)
  ·generalize hq : integerK ra.kind = q at *
   generalize integerK rb.kind = w at *
   by_cases e2 : ra.kind = 2
   ·have q2 := k2 e2
    subst q2
    refine ⟨.cells [.mp T 0] :: (kindY T ra ++ (intY T ra ++ (intY T rb ++ if w = true then [] else intY T ra ++ intY T rb))), Ccall_over rfl rfl rfl rfl ?_⟩
    clear ht ha hb la lb k2 k13 k1 hq hab
    cases w
    ·by_cases r13 : rb.kind = 13
     ·repeat (any_goals first | simp (dsimp := false) (maxSteps := 4000000) (maxDischargeDepth := 8) (implicitDefEqProofs := false) [*, -Int.not_le, -Int.not_lt, amLt, f15c, f15r0, f15r1, f15r2, f15r3, f15r4, f15r5, f15r6, f15r7, f15r8, f15r9, f15r10, f15r11, app_get, app_get0, app_set, app_set0] | with_reducible refine ch_both (fun _ => ?_) (fun _ => ?_) | with_reducible refine ite_both (fun _ => ?_) (fun _ => ?_) | intro _)
     ·repeat (any_goals first | simp (dsimp := false) (maxSteps := 4000000) (maxDischargeDepth := 8) (implicitDefEqProofs := false) [*, -Int.not_le, -Int.not_lt, amLt, f15c, f15r0, f15r1, f15r2, f15r3, f15r4, f15r5, f15r6, f15r7, f15r8, f15r9, f15r10, f15r11, app_get, app_get0, app_set, app_set0] | with_reducible refine ch_both (fun _ => ?_) (fun _ => ?_) | with_reducible refine ite_both (fun _ => ?_) (fun _ => ?_) | intro _)
    ·repeat (any_goals first | simp (dsimp := false) (maxSteps := 4000000) (maxDischargeDepth := 8) (implicitDefEqProofs := false) [*, -Int.not_le, -Int.not_lt, amLt, f15c, f15r0, f15r1, f15r2, f15r3, f15r4, f15r5, f15r6, f15r7, f15r8, f15r9, f15r10, f15r11, app_get, app_get0, app_set, app_set0] | with_reducible refine ch_both (fun _ => ?_) (fun _ => ?_) | with_reducible refine ite_both (fun _ => ?_) (fun _ => ?_) | intro _)
   ·refine ⟨.cells [.mp T 0] :: (kindY T ra ++ (intY T ra ++ ((if q = true then intY T rb else []) ++ if q = true ∧ w = true then [] else intY T ra))), Ccall_over rfl rfl rfl rfl ?_⟩
    clear ht ha hb la lb k2 k13 k1 hq hab
    cases q <;> cases w
    ·repeat (any_goals first | simp (dsimp := false) (maxSteps := 4000000) (maxDischargeDepth := 8) (implicitDefEqProofs := false) [*, -Int.not_le, -Int.not_lt, amLt, f15c, f15r0, f15r1, f15r2, f15r3, f15r4, f15r5, f15r6, f15r7, f15r8, f15r9, f15r10, f15r11, app_get, app_get0, app_set, app_set0] | with_reducible refine ch_both (fun _ => ?_) (fun _ => ?_) | with_reducible refine ite_both (fun _ => ?_) (fun _ => ?_) | intro _)
    ·repeat (any_goals first | simp (dsimp := false) (maxSteps := 4000000) (maxDischargeDepth := 8) (implicitDefEqProofs := false) [*, -Int.not_le, -Int.not_lt, amLt, f15c, f15r0, f15r1, f15r2, f15r3, f15r4, f15r5, f15r6, f15r7, f15r8, f15r9, f15r10, f15r11, app_get, app_get0, app_set, app_set0] | with_reducible refine ch_both (fun _ => ?_) (fun _ => ?_) | with_reducible refine ite_both (fun _ => ?_) (fun _ => ?_) | intro _)
    ·repeat (any_goals first | simp (dsimp := false) (maxSteps := 4000000) (maxDischargeDepth := 8) (implicitDefEqProofs := false) [*, -Int.not_le, -Int.not_lt, amLt, f15c, f15r0, f15r1, f15r2, f15r3, f15r4, f15r5, f15r6, f15r7, f15r8, f15r9, f15r10, f15r11, app_get, app_get0, app_set, app_set0] | with_reducible refine ch_both (fun _ => ?_) (fun _ => ?_) | with_reducible refine ite_both (fun _ => ?_) (fun _ => ?_) | intro _)
    ·repeat (any_goals first | simp (dsimp := false) (maxSteps := 4000000) (maxDischargeDepth := 8) (implicitDefEqProofs := false) [*, -Int.not_le, -Int.not_lt, amLt, f15c, f15r0, f15r1, f15r2, f15r3, f15r4, f15r5, f15r6, f15r7, f15r8, f15r9, f15r10, f15r11, app_get, app_get0, app_set, app_set0] | with_reducible refine ch_both (fun _ => ?_) (fun _ => ?_) | with_reducible refine ite_both (fun _ => ?_) (fun _ => ?_) | intro _)
end
theorem usual_even (k l : Int) : usual k l = usual l k := by
 unfold usual
 by_cases h1 : integerK k = true <;> by_cases h2 : integerK l = true
 ·rw [if_pos ⟨h1, h2⟩, if_pos ⟨h2, h1⟩]
  generalize promote k (-1) = x
  generalize promote l (-1) = y
  dsimp only
  congr 1
  repeat' split
  all_goals first | rfl | omega
 ·rw [if_neg (fun q => h2 q.2), if_neg (fun q => h2 q.1)]
 ·rw [if_neg (fun q => h1 q.1), if_neg (fun q => h1 q.2)]
 ·rw [if_neg (fun q => h1 q.1), if_neg (fun q => h1 q.2)]
theorem promote_in {k : Int} (h : integerK k = true) : promote k (-1) = 8 ∨ promote k (-1) = 9 ∨ promote k (-1) = 10 ∨ promote k (-1) = 11 := by
 unfold promote
 rw [if_pos h]
 simp only [integerK, Bool.and_eq_true, decide_eq_true_eq] at h
 split
 ·exact Or.inl rfl
 ·omega
theorem usual_four {k l : Int} (h1 : integerK k = true) (h2 : integerK l = true) : ∃ x, usual k l = (x, 0) ∧ (x = 8 ∨ x = 9 ∨ x = 10 ∨ x = 11) := by
 unfold usual
 rw [if_pos ⟨h1, h2⟩]
 dsimp only
 refine ⟨_, rfl, ?_⟩
 repeat' split
 all_goals omega
theorem usual_no {k l : Int} (h : ¬ (integerK k = true ∧ integerK l = true)) : usual k l = (0, 70) := by
 unfold usual
 rw [if_neg h]
theorem usual_self {k : Int} (h : integerK k = true) : usual k k = (promote k (-1), 0) := by
 have := promote_in h
 unfold usual
 rw [if_pos ⟨h, h⟩]
 dsimp only
 generalize promote k (-1) = x at *
 congr 1
 repeat' split
 all_goals omega
theorem done_rec {t : List TR} (h : AccP t) {id : Int} {r : TR} (hg : getT t id = some r) (hd : r.done = true) : r.kind = 15 ∨ r.kind = 16 := by
 obtain ⟨h0, hi⟩ := getT_some hg
 by_cases hlt : id.toNat < 11
 ·have := h.basic _ r hi hlt
  simp only [basicR, decide_eq_true_eq] at this
  rw [hd] at this
  exact absurd this.2.2.2.2.2 (by decide)
 ·have := (h.row _ r hi (by omega)).1
  unfold shapedR at this
  by_cases k13 : r.kind = 13
  ·rw [if_pos k13, hd] at this; simp at this
  ·rw [if_neg k13] at this
   by_cases k14 : r.kind = 14
   ·rw [if_pos k14, hd] at this; simp at this
   ·rw [if_neg k14] at this
    by_cases k12 : r.kind = 12
    ·rw [if_pos k12, hd] at this; simp at this
    ·rw [if_neg k12] at this
     by_cases k15 : r.kind = 15 ∨ r.kind = 16
     ·exact k15
     ·rw [if_neg k15] at this; cases this
theorem assign_self {a : Int} {r : TR} (h : 1 < r.kind ∧ r.kind ≤ 13) : assignS a a r r = 0 := by
 unfold assignS
 by_cases k13 : r.kind = 13
 ·rw [if_pos]
  simp [alikeB, k13]
 ·have : integerK r.kind = true := by simp only [integerK, Bool.and_eq_true, decide_eq_true_eq]; omega
  rw [if_pos (by simp [this])]
theorem assign_cast {a b : Int} {ra rb : TR} (hd : ra.done = true → ra.kind = 15 ∨ ra.kind = 16) (h : assignS a b ra rb = 0) : castS ra rb = 0 ∨ (ra.kind = 15 ∨ ra.kind = 16) := by
 unfold assignS at h
 unfold castS
 by_cases c1 : (integerK ra.kind && integerK rb.kind) = true
 ·left; rw [if_pos (Or.inr (Or.inl c1))]
 ·by_cases c2 : ra.kind = 13 ∧ rb.kind = 13
  ·left; rw [if_pos (Or.inr (Or.inr (Or.inl c2)))]
  ·by_cases c3 : ra.done = true
   ·exact Or.inr (hd c3)
   ·exfalso
    have e1 : (integerK ra.kind && integerK rb.kind) = false := by simpa using c1
    have e2 : alikeB a b ra rb = false := by
     unfold alikeB
     by_cases q : ra.kind = 13
     ·have : ¬ rb.kind = 13 := fun e => c2 ⟨q, e⟩
      simp [this]
     ·simp [q]
    have e3 : ra.done = false := by simpa using c3
    rw [e1, e2, e3] at h
    simp at h
section
variable {H : Heap} {T : Nat} {rows : List TR} {c : Cap}
theorem rscalar_ok (hT : H[T]? = some (.cells [.is (rows.map trow) c])) (id : Int) : Ccall tab 13 [.mp T 0, .int .i64 id] H = some (.bool (decide (1 < kindS rows id) && decide (kindS rows id ≤ 13)), H) := by
 have hh := rkind_ok hT id
 generalize kindS rows id = k at *
 refine Ccall_over rfl rfl rfl rfl ?_
 by_cases h0 : 1 < k
 ·repeat (any_goals first | simp (dsimp := false) (maxSteps := 4000000) (maxDischargeDepth := 8) (implicitDefEqProofs := false) [*, -Int.not_le, -Int.not_lt, amLt, f13c, f13r0, f13r1, f13r2] | with_reducible refine ch_both (fun _ => ?_) (fun _ => ?_) | with_reducible refine ite_both (fun _ => ?_) (fun _ => ?_) | intro _)
 ·repeat (any_goals first | simp (dsimp := false) (maxSteps := 4000000) (maxDischargeDepth := 8) (implicitDefEqProofs := false) [*, -Int.not_le, -Int.not_lt, amLt, f13c, f13r0, f13r1, f13r2] | with_reducible refine ch_both (fun _ => ?_) (fun _ => ?_) | with_reducible refine ite_both (fun _ => ?_) (fun _ => ?_) | intro _)
end
theorem even_law (rows : List TR) (c0 : Cap) (a b : Int) (hcap : ∀ w ∈ rows, w.cap = .no) (hsz : ∀ w ∈ rows, w.tag.length ≤ 1048576 ∧ w.mem.length ≤ 16777216 ∧ ∀ m ∈ w.mem, m.1.length ≤ 1048576) (hlen : rows.length ≤ 16777216) (H : Heap) :
  ∃ G', Ccall tab 3 [.is (rows.map trow) c0, .int .i64 a, .int .i64 b] H = some (.bool true, G') := by
 obtain ⟨G, k1, hB⟩ := both_ok [] rows .no hcap hsz hlen
 have hh := heads_ok
 refine ⟨H, Ccall_own rfl rfl rfl rfl ?_⟩
 rcases hB with ⟨T, R, M, C, cap, es, ck, hat, hb⟩ | hb
 ·have hp := acc_imp hat.acc
  have he := tab_erase hcap hp
  have hacc : AccP (tabOf rows) := acc_erase (by rw [he]; exact hp)
  have hl := tab_len hcap hp
  have ht := hat.tab
  have hC := hat.ref
  rw [← hl] at ht
  have hha := rhas_ok hC a
  have hhb := rhas_ok hC b
  have hasE : ∀ id, hasS rows id = hasS (tabOf rows) id := fun id => by
   have := has_erase (tabOf rows)
   rw [he] at this
   exact congrFun this id
  have kindE : ∀ id, kindS rows id = kindS (tabOf rows) id := fun id => by
   have := kind_erase (tabOf rows)
   rw [he] at this
   exact congrFun this id
  have szE : ∀ (id : Int) (r : TR), getT (tabOf rows) id = some r → r.mem.length ≤ 16777216 := fun id r hg => by
   have : eraseT r ∈ rows := by
    rw [← he]
    exact List.mem_map.2 ⟨r, List.mem_of_getElem? (getT_some hg).2, rfl⟩
   exact (hsz _ this).2.1
  by_cases ca : hasS rows a = true
  ·by_cases cb : hasS rows b = true
   ·rw [ca] at hha
    rw [cb] at hhb
    rw [hasE] at ca cb
    unfold hasS at ca cb
    cases ga : getT (tabOf rows) a with
    | none => rw [ga] at ca; cases ca
    | some ra =>
     cases gb : getT (tabOf rows) b with
     | none => rw [gb] at cb; cases cb
     | some rb =>
      have ka : kindS rows a = ra.kind := by rw [kindE]; unfold kindS; rw [ga]
      have kb : kindS rows b = rb.kind := by rw [kindE]; unfold kindS; rw [gb]
      have la := szE a ra ga
      have lb := szE b rb gb
      have q1 := rkind_ok hC a
      have q2 := rkind_ok hC b
      have q3 := rinteger_ok hC a
      have q4 := rinteger_ok hC b
      have q5 := rscalar_ok hC a
      have q6 := fun x => rrecord_ok (rapp hC x) a
      have iE : ∀ k : Int, (decide (1 < k) && decide (k ≤ 12)) = integerK k := fun k => by
       unfold integerK
       congr 1
      rw [ka, iE] at q3
      rw [kb, iE] at q4
      rw [ka] at q1 q5
      simp only [ka] at q6
      rw [kb] at q2
      have u1 := fun h => usual_ok h ra.kind rb.kind
      have u2 := fun h => usual_ok h rb.kind ra.kind
      have u3 := fun h => usual_ok h ra.kind ra.kind
      have p1 := fun h => promote_ok h ra.kind (-1)
      rw [usual_even rb.kind ra.kind] at u2
      obtain ⟨Y1, a1⟩ := assign_ok ht ga la ga la
      obtain ⟨Y2, a2⟩ := assign_ok ht ga la gb lb
      obtain ⟨Y3, a3⟩ := assign_ok (ht.app Y1) ga la gb lb
      obtain ⟨Y4, a4⟩ := cast_ok (ht.app Y2) ga la gb lb
      obtain ⟨Y5, a5⟩ := cast_ok ((ht.app Y1).app Y3) ga la gb lb
      have hac := assign_cast (a := a) (b := b) (ra := ra) (rb := rb) (done_rec hacc ga)
      have has := assign_self (a := a) (r := ra)
      have pin := promote_in (k := ra.kind)
      have u4 := usual_four (k := ra.kind) (l := rb.kind)
      have un := usual_no (k := ra.kind) (l := rb.kind)
      have us := usual_self (k := ra.kind)
      have isc : integerK ra.kind = true → (decide (1 < ra.kind) && decide (ra.kind ≤ 13)) = true := fun q => by
       simp only [integerK, Bool.and_eq_true, decide_eq_true_eq] at *
       omega
      generalize castS ra rb = ct at *
      generalize assignS a b ra rb = asn at *
      generalize rows.map trow = X at *
      simp only [List.append_assoc] at *
      generalize hrc : decide (ra.kind = 15 ∨ ra.kind = 16) = rc at *
      replace hac : asn = 0 → ct = 0 ∨ rc = true := fun q => by rw [← hrc]; simpa using hac q
      generalize hsc : (decide (1 < ra.kind) && decide (ra.kind ≤ 13)) = sc at *
      replace has : sc = true → assignS a a ra ra = 0 := fun q => has (by rw [← hsc] at q; simpa using q)
      generalize assignS a a ra ra = aa at *
      clear hcap hsz hlen k1 hat hp he hacc hl ht hC hasE kindE szE ca cb ga gb ka kb la lb iE hrc hsc
      have q5' := fun (_ : True) => q5
      clear q5
      generalize ra.kind = k at *
      generalize rb.kind = l at *
      cases hp : integerK k with
      | true =>
       rw [hp] at q3
       have s1 := isc hp
       have s2 := has s1
       have s3 := us hp
       have q5 := q5' trivial
       rw [s1] at q5
       rw [s3] at u3
       generalize promote k (-1) = pr at *
       clear q5' isc has us pin s3
       subst s1 s2
       cases hq : integerK l with
       | true =>
        obtain ⟨x, hx, hx4⟩ := u4 hp hq
        rw [hx] at u1 u2
        rw [hq] at q4
        clear u4 un hx hp hq
        by_cases e : asn = 0
        ·rcases hac e with r | r
         ·subst e r
          clear hac
          rcases hx4 with rfl | rfl | rfl | rfl
          ·repeat (any_goals first | simp (dsimp := false) (maxSteps := 4000000) (maxDischargeDepth := 8) (implicitDefEqProofs := false) [*, -Int.not_le, -Int.not_lt, amLt, f3c, f3r0, f3r1, f3r2, f3r3, f3r4, f3r5, f3r6, f3r7, f3r8, f3r9, f3r10, f3r11, f3r12, f3r13, f3r14, f3r15, f3r16] | with_reducible refine ch_both (fun _ => ?_) (fun _ => ?_) | with_reducible refine ite_both (fun _ => ?_) (fun _ => ?_) | intro _)
          ·repeat (any_goals first | simp (dsimp := false) (maxSteps := 4000000) (maxDischargeDepth := 8) (implicitDefEqProofs := false) [*, -Int.not_le, -Int.not_lt, amLt, f3c, f3r0, f3r1, f3r2, f3r3, f3r4, f3r5, f3r6, f3r7, f3r8, f3r9, f3r10, f3r11, f3r12, f3r13, f3r14, f3r15, f3r16] | with_reducible refine ch_both (fun _ => ?_) (fun _ => ?_) | with_reducible refine ite_both (fun _ => ?_) (fun _ => ?_) | intro _)
          ·repeat (any_goals first | simp (dsimp := false) (maxSteps := 4000000) (maxDischargeDepth := 8) (implicitDefEqProofs := false) [*, -Int.not_le, -Int.not_lt, amLt, f3c, f3r0, f3r1, f3r2, f3r3, f3r4, f3r5, f3r6, f3r7, f3r8, f3r9, f3r10, f3r11, f3r12, f3r13, f3r14, f3r15, f3r16] | with_reducible refine ch_both (fun _ => ?_) (fun _ => ?_) | with_reducible refine ite_both (fun _ => ?_) (fun _ => ?_) | intro _)
          ·repeat (any_goals first | simp (dsimp := false) (maxSteps := 4000000) (maxDischargeDepth := 8) (implicitDefEqProofs := false) [*, -Int.not_le, -Int.not_lt, amLt, f3c, f3r0, f3r1, f3r2, f3r3, f3r4, f3r5, f3r6, f3r7, f3r8, f3r9, f3r10, f3r11, f3r12, f3r13, f3r14, f3r15, f3r16] | with_reducible refine ch_both (fun _ => ?_) (fun _ => ?_) | with_reducible refine ite_both (fun _ => ?_) (fun _ => ?_) | intro _)
         ·subst e r
          clear hac
          rcases hx4 with rfl | rfl | rfl | rfl
          ·repeat (any_goals first | simp (dsimp := false) (maxSteps := 4000000) (maxDischargeDepth := 8) (implicitDefEqProofs := false) [*, -Int.not_le, -Int.not_lt, amLt, f3c, f3r0, f3r1, f3r2, f3r3, f3r4, f3r5, f3r6, f3r7, f3r8, f3r9, f3r10, f3r11, f3r12, f3r13, f3r14, f3r15, f3r16] | with_reducible refine ch_both (fun _ => ?_) (fun _ => ?_) | with_reducible refine ite_both (fun _ => ?_) (fun _ => ?_) | intro _)
          ·repeat (any_goals first | simp (dsimp := false) (maxSteps := 4000000) (maxDischargeDepth := 8) (implicitDefEqProofs := false) [*, -Int.not_le, -Int.not_lt, amLt, f3c, f3r0, f3r1, f3r2, f3r3, f3r4, f3r5, f3r6, f3r7, f3r8, f3r9, f3r10, f3r11, f3r12, f3r13, f3r14, f3r15, f3r16] | with_reducible refine ch_both (fun _ => ?_) (fun _ => ?_) | with_reducible refine ite_both (fun _ => ?_) (fun _ => ?_) | intro _)
          ·repeat (any_goals first | simp (dsimp := false) (maxSteps := 4000000) (maxDischargeDepth := 8) (implicitDefEqProofs := false) [*, -Int.not_le, -Int.not_lt, amLt, f3c, f3r0, f3r1, f3r2, f3r3, f3r4, f3r5, f3r6, f3r7, f3r8, f3r9, f3r10, f3r11, f3r12, f3r13, f3r14, f3r15, f3r16] | with_reducible refine ch_both (fun _ => ?_) (fun _ => ?_) | with_reducible refine ite_both (fun _ => ?_) (fun _ => ?_) | intro _)
          ·repeat (any_goals first | simp (dsimp := false) (maxSteps := 4000000) (maxDischargeDepth := 8) (implicitDefEqProofs := false) [*, -Int.not_le, -Int.not_lt, amLt, f3c, f3r0, f3r1, f3r2, f3r3, f3r4, f3r5, f3r6, f3r7, f3r8, f3r9, f3r10, f3r11, f3r12, f3r13, f3r14, f3r15, f3r16] | with_reducible refine ch_both (fun _ => ?_) (fun _ => ?_) | with_reducible refine ite_both (fun _ => ?_) (fun _ => ?_) | intro _)
        ·clear hac
         rcases hx4 with rfl | rfl | rfl | rfl
         ·repeat (any_goals first | simp (dsimp := false) (maxSteps := 4000000) (maxDischargeDepth := 8) (implicitDefEqProofs := false) [*, -Int.not_le, -Int.not_lt, amLt, f3c, f3r0, f3r1, f3r2, f3r3, f3r4, f3r5, f3r6, f3r7, f3r8, f3r9, f3r10, f3r11, f3r12, f3r13, f3r14, f3r15, f3r16] | with_reducible refine ch_both (fun _ => ?_) (fun _ => ?_) | with_reducible refine ite_both (fun _ => ?_) (fun _ => ?_) | intro _)
         ·repeat (any_goals first | simp (dsimp := false) (maxSteps := 4000000) (maxDischargeDepth := 8) (implicitDefEqProofs := false) [*, -Int.not_le, -Int.not_lt, amLt, f3c, f3r0, f3r1, f3r2, f3r3, f3r4, f3r5, f3r6, f3r7, f3r8, f3r9, f3r10, f3r11, f3r12, f3r13, f3r14, f3r15, f3r16] | with_reducible refine ch_both (fun _ => ?_) (fun _ => ?_) | with_reducible refine ite_both (fun _ => ?_) (fun _ => ?_) | intro _)
         ·repeat (any_goals first | simp (dsimp := false) (maxSteps := 4000000) (maxDischargeDepth := 8) (implicitDefEqProofs := false) [*, -Int.not_le, -Int.not_lt, amLt, f3c, f3r0, f3r1, f3r2, f3r3, f3r4, f3r5, f3r6, f3r7, f3r8, f3r9, f3r10, f3r11, f3r12, f3r13, f3r14, f3r15, f3r16] | with_reducible refine ch_both (fun _ => ?_) (fun _ => ?_) | with_reducible refine ite_both (fun _ => ?_) (fun _ => ?_) | intro _)
         ·repeat (any_goals first | simp (dsimp := false) (maxSteps := 4000000) (maxDischargeDepth := 8) (implicitDefEqProofs := false) [*, -Int.not_le, -Int.not_lt, amLt, f3c, f3r0, f3r1, f3r2, f3r3, f3r4, f3r5, f3r6, f3r7, f3r8, f3r9, f3r10, f3r11, f3r12, f3r13, f3r14, f3r15, f3r16] | with_reducible refine ch_both (fun _ => ?_) (fun _ => ?_) | with_reducible refine ite_both (fun _ => ?_) (fun _ => ?_) | intro _)
       | false =>
        have u5 := un (fun z => by rw [hq] at z; cases z.2)
        rw [u5] at u1 u2
        rw [hq] at q4
        clear u4 un u5 hp hq
        by_cases e : asn = 0
        ·rcases hac e with r | r
         ·subst e r
          clear hac
          repeat (any_goals first | simp (dsimp := false) (maxSteps := 4000000) (maxDischargeDepth := 8) (implicitDefEqProofs := false) [*, -Int.not_le, -Int.not_lt, amLt, f3c, f3r0, f3r1, f3r2, f3r3, f3r4, f3r5, f3r6, f3r7, f3r8, f3r9, f3r10, f3r11, f3r12, f3r13, f3r14, f3r15, f3r16] | with_reducible refine ch_both (fun _ => ?_) (fun _ => ?_) | with_reducible refine ite_both (fun _ => ?_) (fun _ => ?_) | intro _)
         ·subst e r
          clear hac
          repeat (any_goals first | simp (dsimp := false) (maxSteps := 4000000) (maxDischargeDepth := 8) (implicitDefEqProofs := false) [*, -Int.not_le, -Int.not_lt, amLt, f3c, f3r0, f3r1, f3r2, f3r3, f3r4, f3r5, f3r6, f3r7, f3r8, f3r9, f3r10, f3r11, f3r12, f3r13, f3r14, f3r15, f3r16] | with_reducible refine ch_both (fun _ => ?_) (fun _ => ?_) | with_reducible refine ite_both (fun _ => ?_) (fun _ => ?_) | intro _)
        ·clear hac
         repeat (any_goals first | simp (dsimp := false) (maxSteps := 4000000) (maxDischargeDepth := 8) (implicitDefEqProofs := false) [*, -Int.not_le, -Int.not_lt, amLt, f3c, f3r0, f3r1, f3r2, f3r3, f3r4, f3r5, f3r6, f3r7, f3r8, f3r9, f3r10, f3r11, f3r12, f3r13, f3r14, f3r15, f3r16] | with_reducible refine ch_both (fun _ => ?_) (fun _ => ?_) | with_reducible refine ite_both (fun _ => ?_) (fun _ => ?_) | intro _)
      | false =>
       have u5 := un (fun z => by rw [hp] at z; cases z.1)
       rw [u5] at u1 u2
       rw [hp] at q3
       have q5 := q5' trivial
       clear u4 un u5 q5' us pin isc p1 u3 hp
       generalize integerK l = il at *
       cases sc with
       | true =>
        have s2 := has rfl
        subst s2
        clear has
        by_cases e : asn = 0
        ·rcases hac e with r | r
         ·subst e r
          clear hac
          repeat (any_goals first | simp (dsimp := false) (maxSteps := 4000000) (maxDischargeDepth := 8) (implicitDefEqProofs := false) [*, -Int.not_le, -Int.not_lt, amLt, f3c, f3r0, f3r1, f3r2, f3r3, f3r4, f3r5, f3r6, f3r7, f3r8, f3r9, f3r10, f3r11, f3r12, f3r13, f3r14, f3r15, f3r16] | with_reducible refine ch_both (fun _ => ?_) (fun _ => ?_) | with_reducible refine ite_both (fun _ => ?_) (fun _ => ?_) | intro _)
         ·subst e r
          clear hac
          repeat (any_goals first | simp (dsimp := false) (maxSteps := 4000000) (maxDischargeDepth := 8) (implicitDefEqProofs := false) [*, -Int.not_le, -Int.not_lt, amLt, f3c, f3r0, f3r1, f3r2, f3r3, f3r4, f3r5, f3r6, f3r7, f3r8, f3r9, f3r10, f3r11, f3r12, f3r13, f3r14, f3r15, f3r16] | with_reducible refine ch_both (fun _ => ?_) (fun _ => ?_) | with_reducible refine ite_both (fun _ => ?_) (fun _ => ?_) | intro _)
        ·clear hac
         repeat (any_goals first | simp (dsimp := false) (maxSteps := 4000000) (maxDischargeDepth := 8) (implicitDefEqProofs := false) [*, -Int.not_le, -Int.not_lt, amLt, f3c, f3r0, f3r1, f3r2, f3r3, f3r4, f3r5, f3r6, f3r7, f3r8, f3r9, f3r10, f3r11, f3r12, f3r13, f3r14, f3r15, f3r16] | with_reducible refine ch_both (fun _ => ?_) (fun _ => ?_) | with_reducible refine ite_both (fun _ => ?_) (fun _ => ?_) | intro _)
       | false =>
        clear has
        by_cases e : asn = 0
        ·rcases hac e with r | r
         ·subst e r
          clear hac
          repeat (any_goals first | simp (dsimp := false) (maxSteps := 4000000) (maxDischargeDepth := 8) (implicitDefEqProofs := false) [*, -Int.not_le, -Int.not_lt, amLt, f3c, f3r0, f3r1, f3r2, f3r3, f3r4, f3r5, f3r6, f3r7, f3r8, f3r9, f3r10, f3r11, f3r12, f3r13, f3r14, f3r15, f3r16] | with_reducible refine ch_both (fun _ => ?_) (fun _ => ?_) | with_reducible refine ite_both (fun _ => ?_) (fun _ => ?_) | intro _)
         ·subst e r
          clear hac
          repeat (any_goals first | simp (dsimp := false) (maxSteps := 4000000) (maxDischargeDepth := 8) (implicitDefEqProofs := false) [*, -Int.not_le, -Int.not_lt, amLt, f3c, f3r0, f3r1, f3r2, f3r3, f3r4, f3r5, f3r6, f3r7, f3r8, f3r9, f3r10, f3r11, f3r12, f3r13, f3r14, f3r15, f3r16] | with_reducible refine ch_both (fun _ => ?_) (fun _ => ?_) | with_reducible refine ite_both (fun _ => ?_) (fun _ => ?_) | intro _)
        ·clear hac
         repeat (any_goals first | simp (dsimp := false) (maxSteps := 4000000) (maxDischargeDepth := 8) (implicitDefEqProofs := false) [*, -Int.not_le, -Int.not_lt, amLt, f3c, f3r0, f3r1, f3r2, f3r3, f3r4, f3r5, f3r6, f3r7, f3r8, f3r9, f3r10, f3r11, f3r12, f3r13, f3r14, f3r15, f3r16] | with_reducible refine ch_both (fun _ => ?_) (fun _ => ?_) | with_reducible refine ite_both (fun _ => ?_) (fun _ => ?_) | intro _)
   ·rw [show hasS rows b = false by simpa using cb] at hhb
    rw [ca] at hha
    generalize rows.map trow = X at *
    clear hcap hsz hlen k1 hat hp he hacc hl ht hC hasE kindE szE cb ca
    repeat (any_goals first | simp (dsimp := false) (maxSteps := 4000000) (maxDischargeDepth := 8) (implicitDefEqProofs := false) [*, -Int.not_le, -Int.not_lt, amLt, f3c, f3r0, f3r1, f3r2, f3r3, f3r4, f3r5, f3r6, f3r7, f3r8, f3r9, f3r10, f3r11, f3r12, f3r13, f3r14, f3r15, f3r16] | with_reducible refine ch_both (fun _ => ?_) (fun _ => ?_) | with_reducible refine ite_both (fun _ => ?_) (fun _ => ?_) | intro _)
  ·rw [show hasS rows a = false by simpa using ca] at hha
   generalize rows.map trow = X at *
   clear hcap hsz hlen k1 hat hp he hacc hl ht hC hasE kindE szE ca
   repeat (any_goals first | simp (dsimp := false) (maxSteps := 4000000) (maxDischargeDepth := 8) (implicitDefEqProofs := false) [*, -Int.not_le, -Int.not_lt, amLt, f3c, f3r0, f3r1, f3r2, f3r3, f3r4, f3r5, f3r6, f3r7, f3r8, f3r9, f3r10, f3r11, f3r12, f3r13, f3r14, f3r15, f3r16] | with_reducible refine ch_both (fun _ => ?_) (fun _ => ?_) | with_reducible refine ite_both (fun _ => ?_) (fun _ => ?_) | intro _)
 ·generalize rows.map trow = X at *
  clear hcap hsz hlen k1
  repeat (any_goals first | simp (dsimp := false) (maxSteps := 4000000) (maxDischargeDepth := 8) (implicitDefEqProofs := false) [*, -Int.not_le, -Int.not_lt, amLt, f3c, f3r0, f3r1, f3r2, f3r3, f3r4, f3r5, f3r6, f3r7, f3r8, f3r9, f3r10, f3r11, f3r12, f3r13, f3r14, f3r15, f3r16] | with_reducible refine ch_both (fun _ => ?_) (fun _ => ?_) | with_reducible refine ite_both (fun _ => ?_) (fun _ => ?_) | intro _)
theorem even_args : ∀ xs, ArgsL 1048576 f3s xs → ∃ h', Ccall tab 3 xs [] = some (.bool true, h') := by
 intro xs hxs
 obtain ⟨x, _, rfl, h1, y, _, rfl, h2, z, _, rfl, h3, rfl⟩ := hxs
 obtain ⟨rows, rfl, hl, hw⟩ := arg_rows h1
 obtain ⟨a, rfl, _⟩ := arg_int h2
 obtain ⟨b, rfl, _⟩ := arg_int h3
 obtain ⟨g1, g2⟩ := trok_sz hw
 exact even_law rows .no a b g1 g2 (by omega) []
end Go.Proofs.YtfhijkapcdmdnaaGreatDoor
