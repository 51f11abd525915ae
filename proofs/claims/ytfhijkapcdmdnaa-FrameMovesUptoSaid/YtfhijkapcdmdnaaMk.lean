/- Cycles: the plain law. -/
import Derived.Test.YtfhijkapcdmdnaaMj
import Derived.Test.YtfhijkapcdmdnaaAmW
namespace Go.Proofs.Ytfhijkapcdmdnaa
open Go.AM
set_option maxRecDepth 20000
set_option maxHeartbeats 4000000
set_option linter.unusedSimpArgs false
set_option linter.unusedVariables false
attribute [local congr] andF_cg onF_cg bthen_cg bkeep_cg bcond_cg guardV_cg putF_cg guardF_cg ite_cg stepsF_cg
attribute [local simp] Brun_skip Brun_exit Brun_ret Brun_seq Brun_cond Brun_block Brun_region bthen_normal bthen_ret bthen_exit bblock_normal bblock_ret bblock_exit bkeep_some andF_some onF_some onF_none guardF_none guardF_some guardV_tup putF_some putF_none stepsF_nil stepsF_cons upd_apply ofL_cons ofL_nil bown_normal bown_ret banswer_normal banswer_ret aresults ares List.replicate stepF_call stepF_callD stepF_move stepF_pick stepF_alloc stepF_allocV stepF_box stepF_boxV stepF_build stepF_buildSlice stepF_buildSliceV stepF_load stepF_store stepF_nilCheck stepF_bin stepF_eq stepF_un stepF_conv stepF_strId strIdV_str strIdV_int stepF_toStr stepF_toBytes stepF_fn stepF_mkSlice stepF_slice stepF_strSlice stepF_fieldAddr stepF_field stepF_idxAddr stepF_idxArr stepF_index stepF_strIndex stepF_extract stepF_len0 stepF_len1 stepF_min stepF_max stepF_append stepF_appendF appF_none appF_row stepF_mkMap stepF_mkIface stepF_lookup stepF_mapUpdate stepF_ext aext_idx aext_count aext_same cellsF newF abin_add abin_sub abin_mul abin_quo abin_rem abin_eql abin_neq abin_lss abin_leq abin_gtr abin_geq abin_and abin_or abin_xor abin_shl abin_shr abin_seql abin_sneq aun_not aun_neg aeq_bool aeq_agg eqCells_nil eqCells_int eqCells_bool eqCells_str cellsOf_agg cellsOf_int cellsOf_bool cellsOf_str cellsOf_is cellsOf_ms cellsOf_fn cellsOf_nilp cellsOf_mp cellsOf_mm cellsOf_nilm cellsOf_nili cellsOf_ifc cellsOf_ip cget_one cget_agg ev_t ev_c fillp_nil fillp_cons isSc_int isSc_bool isSc_str isSc_is isSc_ms isSc_fn isSc_mm isSc_mp isSc_ip isSc_nilp isSc_nilm isSc_nili isSc_nilf isSc_ifc splice chunk strip strip.stripL imm imm.immL Areify_int Areify_bool Areify_str Areify_is Areify_nilp Areify_tup Areify_agg AreifyL andF_chi andF_ch onF_chi onF_ch bthen_ch bthen_chi bblock_ch bblock_chi bkeep_ch bkeep_chi bown_ch bown_chi banswer_ch banswer_chi isSome_ch bcond_ch guardV_ch1 guardV_ch0 chF_true chF_false chF_not
attribute [local simp ↓] andF_some andF_chi andF_ch onF_some onF_none onF_chi onF_ch bthen_normal bthen_ret bthen_exit bthen_ch bthen_chi bblock_normal bblock_ret bblock_exit bblock_ch bblock_chi bkeep_some bkeep_ch bkeep_chi bown_normal bown_ret bown_ch bown_chi banswer_normal banswer_ret banswer_ch banswer_chi bcond_ch guardV_ch1 guardV_ch0 guardV_tup guardF_none guardF_some putF_some putF_none stepsF_nil stepsF_cons chF_true chF_false Brun_seq Brun_cond Brun_block Brun_region Brun_skip Brun_ret Brun_exit stepF_call stepF_callD stepF_move stepF_pick stepF_alloc stepF_allocV stepF_box stepF_boxV stepF_build stepF_buildSlice stepF_buildSliceV stepF_load stepF_store stepF_nilCheck stepF_bin stepF_eq stepF_un stepF_conv stepF_strId stepF_toStr stepF_toBytes stepF_fn stepF_mkSlice stepF_slice stepF_strSlice stepF_fieldAddr stepF_field stepF_idxAddr stepF_idxArr stepF_index stepF_strIndex stepF_extract stepF_len0 stepF_len1 stepF_min stepF_max stepF_append stepF_appendF stepF_mkMap stepF_mkIface stepF_lookup stepF_mapUpdate stepF_ext
set_option maxHeartbeats 4000000
/-! Cycles are counted. -/
def frF : (Int → Int) → List Mv → Int → Int
  | f, [] => f
  | f, m :: r => frF (if self m = true then f else fun i => if i = m.1 then m.2 else f i) r
theorem restM_cons (m : Mv) (r : List Mv) : restM (m :: r) = if self m = true then restM r else m :: restM r := by
  unfold restM
  rw [List.filter_cons]
  cases self m <;> simp
theorem frF_src : ∀ (r : List Mv) (f : Int → Int) (i : Int), (tos r).Nodup → frF f r i = (src (restM r) i).getD (f i) := by
  intro r
  induction r with
  | nil => intro f i _; rfl
  | cons m r ih =>
    intro f i hn
    simp only [tos, List.map_cons, List.nodup_cons] at hn
    rw [restM_cons]
    simp only [frF]
    by_cases c : self m = true
    · rw [if_pos c, if_pos c]; exact ih f i hn.2
    · rw [if_neg c, if_neg c, ih _ i hn.2]
      by_cases e : i = m.1
      · subst e
        have h1 : src (restM r) m.1 = none := src_none fun h => by
          obtain ⟨x, hx, hq⟩ := List.mem_map.1 h
          exact hn.1 (List.mem_map.2 ⟨x, (List.mem_filter.1 hx).1, hq⟩)
        rw [h1]
        simp [src]
      · have h2 : src (m :: restM r) i = src (restM r) i := by
          unfold src
          rw [List.find?_cons_of_neg (by simpa using fun q => e q.symm)]
        rw [h2]
        simp only [if_neg e]
def chase (f : Int → Int) (i : Int) : Nat → Int → Bool → Bool → Bool × Bool
  | 0, _, back, least => (back, least)
  | c + 1, at_, back, least => if 0 ≤ at_ ∧ back = false then chase f i c (f at_) (decide (f at_ = i)) (least && (decide (f at_ < 0) || decide (i ≤ f at_))) else (back, least)
def isCyc (f : Int → Int) (i : Nat) : Bool := (chase f i 16 i false true).1 && (chase f i 16 i false true).2
theorem mn_chase {r : List Mv} (hr : InR r) {i : Int} (hi : 0 ≤ i ∧ i ≤ 15) (hm : Mn r i) : chase (fun j => (src r j).getD (-1)) i 16 i false true = (true, true) := by
  obtain ⟨k, k1, k2, k3⟩ := hm
  -- the first time round
  have hex : ∃ q, 1 ≤ q ∧ it r q i = some i ∧ q ≤ k ∧ ∀ j, 1 ≤ j → j < q → it r j i ≠ some i := by
    have key : ∀ n, ∀ q, q ≤ n → 1 ≤ q → it r q i = some i → q ≤ k → ∃ q, 1 ≤ q ∧ it r q i = some i ∧ q ≤ k ∧ ∀ j, 1 ≤ j → j < q → it r j i ≠ some i := by
      intro n
      induction n with
      | zero => intro q h1 h2; omega
      | succ n ih =>
        intro q h1 h2 h3 h4
        by_cases c : ∃ j, 1 ≤ j ∧ j < q ∧ it r j i = some i
        · obtain ⟨j, j1, j2, j3⟩ := c
          exact ih j (by omega) j1 j3 (by omega)
        · exact ⟨q, h2, h3, h4, fun j j1 j2 j3 => c ⟨j, j1, j2, j3⟩⟩
    exact key k k (Nat.le_refl _) k1 k2 (Nat.le_refl _)
  obtain ⟨q, q1, q2, q3, q4⟩ := hex
  have hval : ∀ j, j ≤ q → ∃ x, it r j i = some x ∧ 0 ≤ x ∧ x ≤ 15 := fun j hj => by
    obtain ⟨x, hx⟩ := it_prefix q2 hj
    refine ⟨x, hx, ?_⟩
    cases j with
    | zero => cases hx; exact hi
    | succ j =>
      obtain ⟨y, _, hy⟩ := it_next hx
      have := hr _ (src_some hy)
      exact this.2
  have hq : q ≤ 16 := by
    have := pigeon (a := (List.range q).map fun j => (it r j i).getD 0) (b := (List.range 16).map fun n : Nat => (n : Int)) (by
      rw [List.Nodup, List.pairwise_map]
      refine List.Pairwise.imp_of_mem ?_ (List.nodup_range (n := q))
      intro a b ha hb hne e
      have ha' := List.mem_range.1 ha
      have hb' := List.mem_range.1 hb
      obtain ⟨xa, xa1, _⟩ := hval a (by omega)
      obtain ⟨xb, xb1, _⟩ := hval b (by omega)
      rw [xa1, xb1] at e
      simp only [Option.getD_some] at e
      subst e
      -- a and b come to the same
      have meet : ∀ a b : Nat, a < b → b < q → it r a i = some xa → it r b i = some xa → False := fun a b hab hbq e1 e2 => by
        have h1 := q2
        rw [show q = b + (q - b) by omega, it_add, e2] at h1
        have h2 : it r (a + (q - b)) i = some i := by rw [it_add, e1]; exact h1
        exact q4 (a + (q - b)) (by omega) (by omega) h2
      rcases Nat.lt_or_ge a b with c | c
      · exact meet a b c hb' xa1 xb1
      · exact meet b a (by omega) ha' xb1 xa1) (fun x hx => by
      obtain ⟨j, hj, rfl⟩ := List.mem_map.1 hx
      obtain ⟨x, hx1, hx2⟩ := hval j (by have := List.mem_range.1 hj; omega)
      rw [hx1]
      exact List.mem_map.2 ⟨x.toNat, List.mem_range.2 (by omega), by simp; omega⟩)
    simpa using this
  have run : ∀ (d t c : Nat) (x : Int), t + d = q → d ≤ c → it r t i = some x → chase (fun j => (src r j).getD (-1)) i c x (decide (1 ≤ t ∧ t = q)) true = (true, true) := by
    intro d
    induction d with
    | zero =>
      intro t c x ht hc hx
      have : decide (1 ≤ t ∧ t = q) = true := by simp; omega
      rw [this]
      cases c with
      | zero => rfl
      | succ c => simp [chase]
    | succ d ih =>
      intro t c x ht hc hx
      obtain ⟨c, rfl⟩ : ∃ c', c = c' + 1 := ⟨c - 1, by omega⟩
      have : decide (1 ≤ t ∧ t = q) = false := by simp; omega
      rw [this]
      obtain ⟨x', hx', hb⟩ := hval t (by omega)
      rw [hx] at hx'
      cases hx'
      obtain ⟨y, hy, hyb⟩ := hval (t + 1) (by omega)
      have hsy : src r x = some y := by
        obtain ⟨z, z1, z2⟩ := it_next hy
        rw [hx] at z1
        cases z1
        exact z2
      have hi := ih (t + 1) c y (by omega) (by omega) hy
      rw [chase, if_pos ⟨hb.1, rfl⟩]
      have e0 : (src r x).getD (-1) = y := by rw [hsy]; rfl
      simp only [e0, Bool.true_and]
      have e1 : decide (y = i) = decide (1 ≤ t + 1 ∧ t + 1 = q) := by
        by_cases e : t + 1 = q
        · have : y = i := by rw [e, q2] at hy; cases hy; rfl
          simp [e, this]; omega
        · have : y ≠ i := fun h => q4 (t + 1) (by omega) (by omega) (by rw [hy, h])
          simp [e, this]
      have e2 : (decide (y < 0) || decide (i ≤ y)) = true := by
        have : i ≤ y := by
          by_cases e : t + 1 = q
          · rw [e, q2] at hy; cases hy; omega
          · exact k3 (t + 1) y (by omega) hy
        simp [this]
      rw [e1, e2]
      exact hi
  have := run q 0 16 i (by omega) hq rfl
  simpa using this
theorem cyc_le {r : List Mv} (hr : InR r) : cyc r ≤ (List.range 16).countP (isCyc fun j => (src r j).getD (-1)) := by
  unfold cyc
  refine count_le fun n hn h => ?_
  simp only [decide_eq_true_eq] at h
  have := List.mem_range.1 hn
  unfold isCyc
  rw [mn_chase hr (by omega) h]
  rfl

end Go.Proofs.Ytfhijkapcdmdnaa
