/- Moves: the plain law. -/
import Derived.Test.YtfhijkapcdmdnaaFns
import Derived.Test.YtfhijkapcdmdnaaAmW
namespace Go.Proofs.Ytfhijkapcdmdnaa
open Go.AM
set_option maxRecDepth 20000
set_option maxHeartbeats 4000000
set_option linter.unusedSimpArgs false
set_option linter.unusedVariables false
attribute [local congr] andF_cg onF_cg bthen_cg bkeep_cg bcond_cg guardV_cg putF_cg guardF_cg ite_cg stepsF_cg
attribute [local simp] Brun_skip Brun_exit Brun_ret Brun_seq Brun_cond Brun_block Brun_region bthen_normal bthen_ret bthen_exit bblock_normal bblock_ret bblock_exit bkeep_some andF_some onF_some onF_none guardF_none guardF_some guardV_tup putF_some putF_none stepsF_nil stepsF_cons upd_apply ofL_cons ofL_nil bown_normal bown_ret banswer_normal banswer_ret aresults ares List.replicate stepF_call stepF_callD stepF_move stepF_pick stepF_alloc stepF_allocV stepF_box stepF_boxV stepF_build stepF_buildSlice stepF_buildSliceV stepF_load stepF_store stepF_nilCheck stepF_bin stepF_eq stepF_un stepF_conv stepF_strId strIdV_str strIdV_int stepF_toStr stepF_toBytes stepF_fn stepF_mkSlice stepF_slice stepF_strSlice stepF_fieldAddr stepF_field stepF_idxAddr stepF_idxArr stepF_index stepF_strIndex stepF_extract stepF_len0 stepF_len1 stepF_min stepF_max stepF_append stepF_appendF appF_none appF_row stepF_mkMap stepF_mkIface stepF_lookup stepF_mapUpdate stepF_ext aext_idx aext_count aext_same cellsF newF abin_add abin_sub abin_mul abin_quo abin_rem abin_eql abin_neq abin_lss abin_leq abin_gtr abin_geq abin_and abin_or abin_xor abin_shl abin_shr abin_seql abin_sneq aun_not aun_neg aeq_bool aeq_agg eqCells_nil eqCells_int eqCells_bool eqCells_str cellsOf_agg cellsOf_int cellsOf_bool cellsOf_str cellsOf_is cellsOf_ms cellsOf_fn cellsOf_nilp cellsOf_mp cellsOf_mm cellsOf_nilm cellsOf_nili cellsOf_ifc cellsOf_ip cget_one cget_agg ev_t ev_c fillp_nil fillp_cons isSc_int isSc_bool isSc_str isSc_is isSc_ms isSc_fn isSc_mm isSc_mp isSc_ip isSc_nilp isSc_nilm isSc_nili isSc_nilf isSc_ifc splice chunk strip strip.stripL imm imm.immL Areify_int Areify_bool Areify_str Areify_is Areify_nilp Areify_tup Areify_agg AreifyL andF_chi andF_ch onF_chi onF_ch bthen_ch bthen_chi bblock_ch bblock_chi bkeep_ch bkeep_chi bown_ch bown_chi banswer_ch banswer_chi isSome_ch bcond_ch guardV_ch1 guardV_ch0 chF_true chF_false chF_not
attribute [local simp ↓] andF_some andF_chi andF_ch onF_some onF_none onF_chi onF_ch bthen_normal bthen_ret bthen_exit bthen_ch bthen_chi bblock_normal bblock_ret bblock_exit bblock_ch bblock_chi bkeep_some bkeep_ch bkeep_chi bown_normal bown_ret bown_ch bown_chi banswer_normal banswer_ret banswer_ch banswer_chi bcond_ch guardV_ch1 guardV_ch0 guardV_tup guardF_none guardF_some putF_some putF_none stepsF_nil stepsF_cons chF_true chF_false Brun_seq Brun_cond Brun_block Brun_region Brun_skip Brun_ret Brun_exit stepF_call stepF_callD stepF_move stepF_pick stepF_alloc stepF_allocV stepF_box stepF_boxV stepF_build stepF_buildSlice stepF_buildSliceV stepF_load stepF_store stepF_nilCheck stepF_bin stepF_eq stepF_un stepF_conv stepF_strId stepF_toStr stepF_toBytes stepF_fn stepF_mkSlice stepF_slice stepF_strSlice stepF_fieldAddr stepF_field stepF_idxAddr stepF_idxArr stepF_index stepF_strIndex stepF_extract stepF_len0 stepF_len1 stepF_min stepF_max stepF_append stepF_appendF stepF_mkMap stepF_mkIface stepF_lookup stepF_mapUpdate stepF_ext
set_option maxHeartbeats 4000000
/-! Moves one after the other: the plain law. No program in sight. -/

abbrev Mv := Int × Int
/-- Does somebody still read t? -/
def anyFrom (r : List Mv) (t : Int) : Bool := r.any fun x => decide (x.2 = t)
/-- The first move whose place nobody reads. -/
def freeIx (r : List Mv) : Nat → List Mv → Option (Nat × Mv)
  | _, [] => none
  | i, m :: t => if anyFrom r m.1 = true then freeIx r (i + 1) t else some (i, m)
def openAt (sp f : Int) (r : List Mv) : List Mv := r.map fun m => (m.1, if m.2 = f then sp else m.2)
def moves (sp : Int) : Nat → List Mv → List Mv → List Mv
  | 0, _, out => out
  | n + 1, r, out => match r with
    | [] => out
    | m0 :: t => match freeIx (m0 :: t) 0 (m0 :: t) with
      | some (i, m) => moves sp n ((m0 :: t).eraseIdx i) (out ++ [m])
      | none => moves sp n (openAt sp m0.1 (m0 :: t)) (out ++ [(sp, m0.1)])

/-- Where a place's content comes from. -/
def src (r : List Mv) (i : Int) : Option Int := (r.find? fun m => decide (m.1 = i)).map (·.2)
def setR (reg : Int → Int) (m : Mv) : Int → Int := fun i => if i = m.1 then reg m.2 else reg i
def runM (reg : Int → Int) : List Mv → Int → Int
  | [] => reg
  | m :: t => runM (setR reg m) t
theorem runM_app (reg : Int → Int) (a b : List Mv) : runM reg (a ++ b) = runM (runM reg a) b := by
  induction a generalizing reg with
  | nil => rfl
  | cons m t ih => exact ih _

def tos (r : List Mv) : List Int := r.map (·.1)
theorem src_mem {r : List Mv} (hn : (tos r).Nodup) {m : Mv} (hm : m ∈ r) : src r m.1 = some m.2 := by
  induction r with
  | nil => cases hm
  | cons x t ih =>
    simp only [tos, List.map_cons, List.nodup_cons] at hn
    unfold src
    by_cases q : x.1 = m.1
    · rcases List.mem_cons.1 hm with rfl | h
      · simp
      · have hm1 : m.1 ∈ t.map (·.1) := List.mem_map.2 ⟨m, h, rfl⟩
        rw [← q] at hm1
        exact absurd hm1 hn.1
    · rw [List.find?_cons_of_neg (by simpa using q)]
      rcases List.mem_cons.1 hm with rfl | h
      · exact absurd rfl q
      · exact ih hn.2 h
theorem src_some {r : List Mv} {i x : Int} (h : src r i = some x) : (i, x) ∈ r := by
  simp only [src, Option.map_eq_some_iff] at h
  obtain ⟨m, hm, rfl⟩ := h
  have h1 := List.mem_of_find?_eq_some hm
  have h2 := List.find?_some hm
  simp only [decide_eq_true_eq] at h2
  subst h2
  exact h1
theorem src_none {r : List Mv} {i : Int} (h : i ∉ tos r) : src r i = none := by
  cases hq : src r i with
  | none => rfl
  | some x => exact absurd (List.mem_map.2 ⟨_, src_some hq, rfl⟩) h
/-- What is to come. -/
def aim (r : List Mv) (reg : Int → Int) (i : Int) : Int := match src r i with
  | some x => reg x
  | none => reg i
structure InvM (sp : Int) (r : List Mv) : Prop where
  nodup : (tos r).Nodup
  sp : sp ∉ tos r

theorem freeIx_some {r : List Mv} : ∀ {l : List Mv} {k i : Nat} {m : Mv}, freeIx r k l = some (i, m) → ∃ j, i = k + j ∧ l[j]? = some m ∧ anyFrom r m.1 = false := by
  intro l
  induction l with
  | nil => intro k i m h; cases h
  | cons x t ih =>
    intro k i m h
    simp only [freeIx] at h
    split at h
    · obtain ⟨j, h1, h2, h3⟩ := ih h
      exact ⟨j + 1, by omega, by simpa using h2, h3⟩
    · rename_i hx
      cases h
      exact ⟨0, rfl, rfl, by simpa using hx⟩
theorem freeIx_none {r : List Mv} : ∀ {l : List Mv} {k : Nat}, freeIx r k l = none → ∀ m ∈ l, anyFrom r m.1 = true := by
  intro l
  induction l with
  | nil => intro k _ m h; cases h
  | cons x t ih =>
    intro k h m hm
    simp only [freeIx] at h
    split at h
    · rename_i hx
      rcases List.mem_cons.1 hm with rfl | hm
      · exact hx
      · exact ih h m hm
    · cases h

theorem eraseIdx_split {α : Type} : ∀ {l : List α} {i : Nat} {m : α}, l[i]? = some m → ∃ a b, l = a ++ m :: b ∧ l.eraseIdx i = a ++ b := by
  intro l
  induction l with
  | nil => intro i m h; simp at h
  | cons x t ih =>
    intro i m h
    cases i with
    | zero => simp at h; subst h; exact ⟨[], t, rfl, rfl⟩
    | succ i =>
      obtain ⟨a, b, h1, h2⟩ := ih (by simpa using h)
      exact ⟨x :: a, b, by simp [h1], by simp [h2]⟩

/-- A move whose place nobody reads may be done. -/
theorem emit_ok {sp : Int} {r : List Mv} (hi : InvM sp r) {i : Nat} {m : Mv} (hm : r[i]? = some m) (hf : anyFrom r m.1 = false) :
    InvM sp (r.eraseIdx i) ∧ (∀ reg j, aim (r.eraseIdx i) (setR reg m) j = aim r reg j) ∧ (∀ j x, src (r.eraseIdx i) j = some x → src r j = some x) := by
  obtain ⟨a, b, h1, h2⟩ := eraseIdx_split hm
  have hn := hi.nodup
  have hsub : ∀ x ∈ r.eraseIdx i, x ∈ r := fun x hx => List.mem_of_mem_eraseIdx hx
  have hn2 : (tos (r.eraseIdx i)).Nodup := by
    rw [h2]; rw [h1] at hn
    simp only [tos, List.map_append, List.map_cons] at hn ⊢
    exact List.Nodup.sublist (List.Sublist.append_left (List.sublist_cons_self _ _) _) hn
  have hmono : ∀ j x, src (r.eraseIdx i) j = some x → src r j = some x := fun j x h => by
    have := src_mem hn (hsub _ (src_some h))
    exact this
  have hmt : m.1 ∉ tos (r.eraseIdx i) := by
    rw [h2]; rw [h1] at hn
    simp only [tos, List.map_append, List.map_cons] at hn ⊢
    intro h
    obtain ⟨_, n2, n3⟩ := List.nodup_append.1 hn
    rcases List.mem_append.1 h with q | q
    · exact n3 _ q _ (by simp) rfl
    · exact (List.nodup_cons.1 n2).1 q
  refine ⟨⟨hn2, fun h => hi.sp ?_⟩, fun reg j => ?_, hmono⟩
  · obtain ⟨x, hx, hq⟩ := List.mem_map.1 h
    exact List.mem_map.2 ⟨x, hsub x hx, hq⟩
  · unfold aim
    by_cases q : j = m.1
    · subst q
      rw [src_none hmt, src_mem hn (List.mem_of_getElem? hm)]
      simp [setR]
    · cases hs : src (r.eraseIdx i) j with
      | some x =>
        rw [hmono j x hs]
        have hx : x ≠ m.1 := fun e => by
          have : anyFrom r m.1 = true := List.any_eq_true.2 ⟨_, hsub _ (src_some hs), by simpa using e⟩
          rw [hf] at this; cases this
        simp [setR, hx]
      | none =>
        have : src r j = none := by
          cases hq : src r j with
          | none => rfl
          | some x =>
            have hmem := src_some hq
            rw [h1] at hmem
            have hmem2 : (j, x) ∈ r.eraseIdx i := by
              rw [h2]
              simp only [List.mem_append, List.mem_cons] at hmem ⊢
              rcases hmem with h | h | h
              · exact .inl h
              · exact absurd (congrArg Prod.fst h) q
              · exact .inr h
            rw [src_mem hn2 hmem2] at hs
            cases hs
        rw [this]
        simp [setR, q]

theorem tos_open (sp f : Int) (r : List Mv) : tos (openAt sp f r) = tos r := by simp [tos, openAt]
theorem src_open {sp f : Int} {r : List Mv} {j : Int} : src (openAt sp f r) j = (src r j).map fun x => if x = f then sp else x := by
  induction r with
  | nil => rfl
  | cons x t ih =>
    unfold src openAt at *
    simp only [List.map_cons]
    by_cases q : x.1 = j
    · simp [q]
    · rw [List.find?_cons_of_neg (by simpa using q), List.find?_cons_of_neg (by simpa using q)]
      exact ih
/-- Where all that is left goes round, one place is copied into the spare register. -/
theorem open_ok {sp f : Int} {r : List Mv} (hi : InvM sp r) (hs : ∀ m ∈ r, m.2 ≠ sp) :
    InvM sp (openAt sp f r) ∧ ∀ reg j, j ≠ sp → aim (openAt sp f r) (setR reg (sp, f)) j = aim r reg j := by
  refine ⟨⟨by rw [tos_open]; exact hi.nodup, by rw [tos_open]; exact hi.sp⟩, fun reg j hj => ?_⟩
  unfold aim
  rw [src_open]
  cases hq : src r j with
  | none => simp [setR, hj]
  | some x =>
    have hx : x ≠ sp := hs _ (src_some hq)
    simp only [Option.map_some]
    by_cases e : x = f
    · simp [setR, e]
    · simp [setR, e, hx]

/-! ### Going round -/

def it (r : List Mv) : Nat → Int → Option Int
  | 0, i => some i
  | k + 1, i => (it r k i).bind (src r)
theorem it_add (r : List Mv) (a b : Nat) (i : Int) : it r (a + b) i = (it r a i).bind (it r b) := by
  induction b with
  | zero => cases it r a i <;> rfl
  | succ b ih =>
    show (it r (a + b) i).bind (src r) = _
    rw [ih]
    cases it r a i <;> rfl
theorem it_prefix {r : List Mv} {k : Nat} {i x : Int} (h : it r k i = some x) {j : Nat} (hj : j ≤ k) : ∃ y, it r j i = some y := by
  obtain ⟨d, rfl⟩ := Nat.le.dest hj
  rw [it_add] at h
  cases hq : it r j i with
  | none => rw [hq] at h; cases h
  | some y => exact ⟨y, rfl⟩
theorem it_next {r : List Mv} {k : Nat} {i x : Int} (h : it r (k + 1) i = some x) : ∃ y, it r k i = some y ∧ src r y = some x := by
  change (it r k i).bind (src r) = some x at h
  cases hq : it r k i with
  | none => rw [hq] at h; cases h
  | some y => rw [hq] at h; exact ⟨y, rfl, h⟩
theorem it_mono {r r' : List Mv} (hs : ∀ j x, src r' j = some x → src r j = some x) : ∀ {k : Nat} {i x : Int}, it r' k i = some x → it r k i = some x := by
  intro k
  induction k with
  | zero => intro i x h; exact h
  | succ k ih =>
    intro i x h
    obtain ⟨y, h1, h2⟩ := it_next h
    show (it r k i).bind (src r) = some x
    rw [ih h1]
    exact hs _ _ h2
/-- The least one of those that go round. -/
def Mn (r : List Mv) (i : Int) : Prop := ∃ k, 1 ≤ k ∧ it r k i = some i ∧ ∀ j x, j < k → it r j i = some x → i ≤ x
theorem Mn.mono {r r' : List Mv} (hs : ∀ j x, src r' j = some x → src r j = some x) {i : Int} (h : Mn r' i) : Mn r i := by
  obtain ⟨k, h1, h2, h3⟩ := h
  refine ⟨k, h1, it_mono hs h2, fun j x hj hx => ?_⟩
  obtain ⟨y, hy⟩ := it_prefix h2 (Nat.le_of_lt hj)
  have := it_mono hs hy
  rw [hx] at this
  cases this
  exact h3 j x hj hy
theorem src_sp {sp f : Int} {r : List Mv} (hi : sp ∉ tos r) : src (openAt sp f r) sp = none := src_none (by rw [tos_open]; exact hi)
theorem it_open {sp f : Int} {r : List Mv} (hi : sp ∉ tos r) : ∀ {k : Nat} {i x : Int}, it (openAt sp f r) k i = some x → x = sp ∨ it r k i = some x := by
  intro k
  induction k with
  | zero => intro i x h; exact .inr h
  | succ k ih =>
    intro i x h
    obtain ⟨y, h1, h2⟩ := it_next h
    rcases ih h1 with rfl | h3
    · rw [src_sp hi] at h2; cases h2
    · rw [src_open] at h2
      cases hq : src r y with
      | none => rw [hq] at h2; cases h2
      | some z =>
        rw [hq] at h2
        simp only [Option.map_some, Option.some.injEq] at h2
        by_cases e : z = f
        · rw [if_pos e] at h2; exact .inl h2.symm
        · rw [if_neg e] at h2
          subst h2
          refine .inr ?_
          show (it r k i).bind (src r) = some z
          rw [h3]
          exact hq
theorem it_go {sp f : Int} {r : List Mv} (hi : sp ∉ tos r) {k : Nat} {i x y : Int} (h : it (openAt sp f r) k i = some x) (h2 : it (openAt sp f r) (k + 1) i = some y) : it r k i = some x := by
  rcases it_open hi h with rfl | h3
  · obtain ⟨z, g1, g2⟩ := it_next h2
    rw [h] at g1
    cases g1
    rw [src_sp hi] at g2
    cases g2
  · exact h3
theorem Mn.open {sp f : Int} {r : List Mv} (hi : sp ∉ tos r) {i : Int} (h : Mn (openAt sp f r) i) : Mn r i := by
  obtain ⟨k, h1, h2, h3⟩ := h
  have hne : i ≠ sp := fun e => by
    subst e
    obtain ⟨y, hy⟩ := it_prefix h2 h1
    obtain ⟨z, g1, g2⟩ := it_next hy
    cases g1
    rw [src_sp hi] at g2
    cases g2
  refine ⟨k, h1, (it_open hi h2).resolve_left hne, fun j x hj hx => ?_⟩
  obtain ⟨y, hy⟩ := it_prefix h2 (Nat.le_of_lt hj)
  obtain ⟨z, hz⟩ := it_prefix h2 (show j + 1 ≤ k from hj)
  have := it_go hi hy hz
  rw [hx] at this
  cases this
  exact h3 j x hj hy

theorem pigeon : ∀ {a b : List Int}, a.Nodup → (∀ x ∈ a, x ∈ b) → a.length ≤ b.length := by
  intro a
  induction a with
  | nil => intro b _ _; exact Nat.zero_le _
  | cons x t ih =>
    intro b hn hs
    obtain ⟨b1, b2, rfl⟩ := List.append_of_mem (hs x (by simp))
    have hx := List.nodup_cons.1 hn
    have := ih (b := b1 ++ b2) hx.2 fun y hy => by
      have := hs y (by simp [hy])
      simp only [List.mem_append, List.mem_cons] at this ⊢
      rcases this with h | rfl | h
      · exact .inl h
      · exact absurd hy hx.1
      · exact .inr h
    simp only [List.length_cons, List.length_append] at this ⊢
    omega

def AllRead (r : List Mv) : Prop := ∀ m ∈ r, anyFrom r m.1 = true
theorem AllRead.from {r : List Mv} (h : AllRead r) {t : Int} (ht : t ∈ tos r) : ∃ m ∈ r, m.2 = t := by
  obtain ⟨m, hm, rfl⟩ := List.mem_map.1 ht
  obtain ⟨x, hx, hq⟩ := List.any_eq_true.1 (h m hm)
  exact ⟨x, hx, by simpa using hq⟩
/-- Where all is read, one move may not be spared. -/
theorem AllRead.tight {r : List Mv} (h : AllRead r) (hn : (tos r).Nodup) {a b : List Mv} {m : Mv} (hr : r = a ++ m :: b) (hs : m.2 ∈ tos r → ∃ q ∈ a ++ b, q.2 = m.2) : False := by
  have := pigeon (a := tos r) (b := (a ++ b).map (·.2)) hn fun t ht => by
    obtain ⟨q, hq, rfl⟩ := h.from ht
    rw [hr] at hq
    simp only [List.mem_append, List.mem_cons] at hq
    rcases hq with hq | rfl | hq
    · exact List.mem_map.2 ⟨q, by simp [hq], rfl⟩
    · obtain ⟨p, hp, e⟩ := hs ht
      exact List.mem_map.2 ⟨p, hp, e⟩
    · exact List.mem_map.2 ⟨q, by simp [hq], rfl⟩
  rw [hr] at this
  simp only [tos, List.length_map, List.length_append, List.length_cons] at this
  omega
theorem AllRead.notSp {r : List Mv} (h : AllRead r) (hn : (tos r).Nodup) {sp : Int} (hs : sp ∉ tos r) : ∀ m ∈ r, m.2 ≠ sp := by
  intro m hm e
  obtain ⟨a, b, hr⟩ := List.append_of_mem hm
  exact h.tight hn hr fun q => absurd (e ▸ q) hs
theorem AllRead.to {r : List Mv} (h : AllRead r) (hn : (tos r).Nodup) : ∀ m ∈ r, m.2 ∈ tos r := by
  intro m hm
  refine Classical.byContradiction fun q => ?_
  obtain ⟨a, b, hr⟩ := List.append_of_mem hm
  exact h.tight hn hr fun e => absurd e q
theorem AllRead.inj {r : List Mv} (h : AllRead r) (hn : (tos r).Nodup) {i j x : Int} (h1 : src r i = some x) (h2 : src r j = some x) : i = j := by
  refine Classical.byContradiction fun q => ?_
  obtain ⟨a, b, hr⟩ := List.append_of_mem (src_some h1)
  refine h.tight hn hr fun _ => ⟨(j, x), ?_, rfl⟩
  have := src_some h2
  rw [hr] at this
  simp only [List.mem_append, List.mem_cons, Prod.mk.injEq] at this ⊢
  rcases this with g | ⟨g, _⟩ | g
  · exact .inl g
  · exact absurd g.symm q
  · exact .inr g
theorem AllRead.all {r : List Mv} (h : AllRead r) (hn : (tos r).Nodup) {f : Int} (hf : f ∈ tos r) : ∀ k, ∃ x, it r k f = some x ∧ x ∈ tos r := by
  intro k
  induction k with
  | zero => exact ⟨f, rfl, hf⟩
  | succ k ih =>
    obtain ⟨x, h1, h2⟩ := ih
    obtain ⟨m, hm, rfl⟩ := List.mem_map.1 h2
    refine ⟨m.2, ?_, h.to hn m hm⟩
    show (it r k f).bind (src r) = some m.2
    rw [h1]
    exact src_mem hn hm
theorem AllRead.cancel {r : List Mv} (h : AllRead r) (hn : (tos r).Nodup) {f x : Int} : ∀ {a d : Nat}, it r a f = some x → it r (a + d) f = some x → it r d f = some f := by
  intro a
  induction a generalizing x with
  | zero => intro d h1 h2; cases h1; simpa using h2
  | succ a ih =>
    intro d h1 h2
    obtain ⟨y, g1, g2⟩ := it_next h1
    rw [show a + 1 + d = a + d + 1 by omega] at h2
    obtain ⟨z, k1, k2⟩ := it_next h2
    have := h.inj hn g2 k2
    subst this
    exact ih g1 k1
/-- All that is left goes round. -/
theorem AllRead.round {r : List Mv} (h : AllRead r) (hn : (tos r).Nodup) {f : Int} (hf : f ∈ tos r) : ∃ p, 1 ≤ p ∧ it r p f = some f := by
  refine Classical.byContradiction fun q => ?_
  have hno : ∀ p, 1 ≤ p → it r p f ≠ some f := fun p hp e => q ⟨p, hp, e⟩
  have := pigeon (a := (List.range (r.length + 1)).map fun k => (it r k f).getD 0) (b := tos r) (by
    rw [List.Nodup, List.pairwise_map]
    refine List.Pairwise.imp ?_ (List.nodup_range (n := r.length + 1))
    intro a b hne e
    refine hne ?_
    obtain ⟨x, hx, _⟩ := h.all hn hf a
    obtain ⟨y, hy, _⟩ := h.all hn hf b
    rw [hx, hy] at e
    simp only [Option.getD_some] at e
    subst e
    rcases Nat.lt_trichotomy a b with g | g | g
    · obtain ⟨d, rfl⟩ := Nat.le.dest (Nat.le_of_lt g)
      exact absurd (h.cancel hn hx hy) (hno d (by omega))
    · exact g
    · obtain ⟨d, rfl⟩ := Nat.le.dest (Nat.le_of_lt g)
      exact absurd (h.cancel hn hy hx) (hno d (by omega))) fun x hx => by
    obtain ⟨k, _, rfl⟩ := List.mem_map.1 hx
    obtain ⟨y, hy, hm⟩ := h.all hn hf k
    rw [hy]
    exact hm
  simp [tos] at this
  omega
theorem list_min {S : Int → Prop} : ∀ {l : List Int}, (∃ x ∈ l, S x) → ∃ x ∈ l, S x ∧ ∀ y ∈ l, S y → x ≤ y := by
  intro l
  induction l with
  | nil => rintro ⟨x, hx, _⟩; cases hx
  | cons a t ih =>
    rintro ⟨x, hx, hs⟩
    by_cases ht : ∃ x ∈ t, S x
    · obtain ⟨m, h1, h2, h3⟩ := ih ht
      by_cases ha : S a ∧ a ≤ m
      · refine ⟨a, by simp, ha.1, fun y hy hsy => ?_⟩
        rcases List.mem_cons.1 hy with rfl | hy
        · exact Int.le_refl _
        · exact Int.le_trans ha.2 (h3 y hy hsy)
      · refine ⟨m, by simp [h1], h2, fun y hy hsy => ?_⟩
        rcases List.mem_cons.1 hy with rfl | hy
        · exact Classical.byContradiction fun g => ha ⟨hsy, by omega⟩
        · exact h3 y hy hsy
    · rcases List.mem_cons.1 hx with rfl | hx
      · refine ⟨x, by simp, hs, fun y hy hsy => ?_⟩
        rcases List.mem_cons.1 hy with rfl | hy
        · exact Int.le_refl _
        · exact absurd ⟨y, hy, hsy⟩ ht
      · exact absurd ⟨x, hx, hs⟩ ht
theorem it_mul {r : List Mv} {p : Nat} {f : Int} (h : it r p f = some f) : ∀ n, it r (p * n) f = some f := by
  intro n
  induction n with
  | zero => rfl
  | succ n ih => rw [Nat.mul_succ, it_add, ih]; exact h
/-- Opening what goes round leaves one round less. -/
theorem AllRead.strict {r : List Mv} (h : AllRead r) {sp : Int} (hi : InvM sp r) {f : Int} (hf : f ∈ tos r) : ∃ i ∈ tos r, Mn r i ∧ ¬ Mn (openAt sp f r) i := by
  have hn := hi.nodup
  obtain ⟨p, hp, hpf⟩ := h.round hn hf
  obtain ⟨i, h1, ⟨m, hm⟩, h3⟩ := list_min (S := fun x => ∃ m, it r m f = some x) (l := tos r) ⟨f, hf, 0, rfl⟩
  have hround : it r p i = some i := by
    have e1 : it r (p + m) f = some i := by rw [it_add, hpf]; exact hm
    rw [Nat.add_comm, it_add, hm] at e1
    exact e1
  refine ⟨i, h1, ⟨p, hp, hround, fun j x hj hx => ?_⟩, ?_⟩
  · have e1 : it r (m + j) f = some x := by rw [it_add, hm]; exact hx
    obtain ⟨y, hy, hyt⟩ := h.all hn hf (m + j)
    rw [e1] at hy
    cases hy
    exact h3 x hyt ⟨_, e1⟩
  · rintro ⟨k, hk, hkk, _⟩
    have hall : ∀ j, ∃ y, it (openAt sp f r) j i = some y := fun j => it_prefix (it_mul hkk (j + 1)) (by
      calc j ≤ 1 * (j + 1) := by omega
        _ ≤ k * (j + 1) := Nat.mul_le_mul_right _ hk)
    have hq : ∃ q, 1 ≤ q ∧ it r q i = some f := by
      have e1 := it_mul hpf (m + 1)
      have hle : m + 1 ≤ p * (m + 1) := by
        calc m + 1 = 1 * (m + 1) := by omega
          _ ≤ p * (m + 1) := Nat.mul_le_mul_right _ hp
      obtain ⟨d, hd⟩ := Nat.le.dest hle
      rw [← hd, show m + 1 + d = m + (1 + d) by omega, it_add, hm] at e1
      exact ⟨1 + d, by omega, e1⟩
    obtain ⟨q, hq1, hqf⟩ := hq
    obtain ⟨y, hy⟩ := hall q
    obtain ⟨z, hz⟩ := hall (q + 1)
    have := it_go hi.sp hy hz
    rw [hqf] at this
    cases this
    obtain ⟨d, rfl⟩ : ∃ d, q = d + 1 := ⟨q - 1, by omega⟩
    obtain ⟨u, g1, g2⟩ := it_next hy
    rw [src_open] at g2
    cases hs : src r u with
    | none => rw [hs] at g2; cases g2
    | some v =>
      rw [hs] at g2
      simp only [Option.map_some, Option.some.injEq] at g2
      by_cases e : v = f
      · rw [if_pos e] at g2; exact hi.sp (g2 ▸ hf)
      · rw [if_neg e] at g2; exact e g2

/-! ### How many -/

open Classical in
noncomputable def cyc (r : List Mv) : Nat := (List.range 16).countP fun n : Nat => decide (Mn r (n : Int))
theorem count_le {p q : Nat → Bool} : ∀ {l : List Nat}, (∀ x ∈ l, p x = true → q x = true) → l.countP p ≤ l.countP q := by
  intro l
  induction l with
  | nil => intro _; exact Nat.le_refl _
  | cons a t ih =>
    intro h
    have := ih fun x hx => h x (by simp [hx])
    have ha := h a (by simp)
    simp only [List.countP_cons]
    split <;> split <;> first | omega | (rename_i g1 g2; exact absurd (ha g1) g2)
theorem count_lt {p q : Nat → Bool} : ∀ {l : List Nat}, (∀ x ∈ l, p x = true → q x = true) → (∃ x ∈ l, q x = true ∧ p x = false) → l.countP p + 1 ≤ l.countP q := by
  intro l
  induction l with
  | nil => rintro _ ⟨x, hx, _⟩; cases hx
  | cons a t ih =>
    rintro h ⟨x, hx, h1, h2⟩
    have hle := count_le (l := t) fun x hx => h x (by simp [hx])
    have ha := h a (by simp)
    simp only [List.countP_cons]
    rcases List.mem_cons.1 hx with rfl | hx
    · simp [h1, h2]; omega
    · have := ih (fun x hx => h x (by simp [hx])) ⟨x, hx, h1, h2⟩
      split <;> split <;> first | omega | (rename_i g1 g2; exact absurd (ha g1) g2)

def InR (r : List Mv) : Prop := ∀ m ∈ r, (0 ≤ m.1 ∧ m.1 ≤ 15) ∧ 0 ≤ m.2 ∧ m.2 ≤ 15
def need (r : List Mv) : Nat := if (freeIx r 0 r).isSome then 2 * r.length - 1 else 2 * r.length

theorem open_free {sp : Int} {m0 : Mv} {t : List Mv} (hs : sp ≠ m0.1) : (freeIx (openAt sp m0.1 (m0 :: t)) 0 (openAt sp m0.1 (m0 :: t))).isSome = true := by
  have : anyFrom (openAt sp m0.1 (m0 :: t)) m0.1 = false := by
    refine Bool.eq_false_iff.2 fun h => ?_
    obtain ⟨x, hx, hq⟩ := List.any_eq_true.1 h
    obtain ⟨y, hy, rfl⟩ := List.mem_map.1 hx
    simp only [decide_eq_true_eq] at hq
    by_cases e : y.2 = m0.1
    · rw [if_pos e] at hq; exact hs hq
    · rw [if_neg e] at hq; exact e hq
  generalize hr : openAt sp m0.1 (m0 :: t) = r at *
  have h0 : r = (m0.1, if m0.2 = m0.1 then sp else m0.2) :: openAt sp m0.1 t := by rw [← hr]; rfl
  rw [show freeIx r 0 r = freeIx r 0 ((m0.1, if m0.2 = m0.1 then sp else m0.2) :: openAt sp m0.1 t) by rw [← h0]]
  simp only [freeIx]
  rw [if_neg (by simp [this])]
  rfl

theorem moves_ok {sp : Int} (hsp : 0 ≤ sp ∧ sp ≤ 15) : ∀ (n : Nat) (r out : List Mv), InvM sp r → InR r → need r ≤ n →
    ∃ tail, moves sp n r out = out ++ tail ∧ (∀ reg j, j ≠ sp → runM reg tail j = aim r reg j) ∧ tail.length ≤ r.length + cyc r ∧ InR tail := by
  intro n
  induction n with
  | zero =>
    intro r out hi hr hn
    have : r = [] := by
      unfold need at hn
      split at hn
      · rename_i h
        cases r with
        | nil => rfl
        | cons a t =>
          simp only [List.length_cons] at hn
          omega
      · exact List.eq_nil_of_length_eq_zero (by omega)
    subst this
    exact ⟨[], by simp [moves], fun reg j _ => rfl, by simp, fun m hm => by cases hm⟩
  | succ n ih =>
    intro r out hi hr hn
    cases r with
    | nil => exact ⟨[], by simp [moves], fun reg j _ => rfl, by simp, fun m hm => by cases hm⟩
    | cons m0 t =>
      cases hf : freeIx (m0 :: t) 0 (m0 :: t) with
      | some p =>
        obtain ⟨i, m⟩ := p
        obtain ⟨j, hj, hget, hany⟩ := freeIx_some hf
        simp only [Nat.zero_add] at hj
        subst hj
        obtain ⟨g1, g2, g3⟩ := emit_ok hi hget hany
        have hlen := (List.getElem?_eq_some_iff.1 hget).1
        have hel : ((m0 :: t).eraseIdx i).length + 1 = (m0 :: t).length := by rw [List.length_eraseIdx_of_lt hlen]; omega
        obtain ⟨tail, k1, k2, k3, k4⟩ := ih ((m0 :: t).eraseIdx i) (out ++ [m]) g1 (fun x hx => hr x (List.mem_of_mem_eraseIdx hx)) (by
          have h1 : need (m0 :: t) = 2 * (m0 :: t).length - 1 := by simp [need, hf]
          have h2 : need ((m0 :: t).eraseIdx i) ≤ 2 * ((m0 :: t).eraseIdx i).length := by unfold need; split <;> omega
          omega)
        refine ⟨m :: tail, ?_, fun reg j hj => ?_, ?_, ?_⟩
        · simp only [moves, hf]
          rw [k1]; simp
        · show runM (setR reg m) tail j = _
          rw [k2 _ _ hj, g2]
        · have : cyc ((m0 :: t).eraseIdx i) ≤ cyc (m0 :: t) := count_le fun x _ hx => by
            simp only [decide_eq_true_eq] at hx ⊢
            exact hx.mono g3
          simp only [List.length_cons] at k3 hel ⊢
          omega
        · intro x hx
          rcases List.mem_cons.1 hx with rfl | hx
          · exact hr _ (List.mem_of_getElem? hget)
          · exact k4 x hx
      | none =>
        have hall : AllRead (m0 :: t) := freeIx_none hf
        have hm0 : m0.1 ∈ tos (m0 :: t) := by simp [tos]
        have hne : sp ≠ m0.1 := fun e => hi.sp (by rw [e]; exact hm0)
        obtain ⟨g1, g2⟩ := open_ok (f := m0.1) hi (hall.notSp hi.nodup hi.sp)
        have hm0r := hr m0 (by simp)
        obtain ⟨tail, k1, k2, k3, k4⟩ := ih (openAt sp m0.1 (m0 :: t)) (out ++ [(sp, m0.1)]) g1 (fun x hx => by
          obtain ⟨y, hy, rfl⟩ := List.mem_map.1 hx
          have := hr y hy
          refine ⟨this.1, ?_⟩
          show 0 ≤ (if y.2 = m0.1 then sp else y.2) ∧ _
          split
          · exact hsp
          · exact this.2) (by
          have h1 : need (m0 :: t) = 2 * (m0 :: t).length := by simp [need, hf]
          have h2 : need (openAt sp m0.1 (m0 :: t)) = 2 * (m0 :: t).length - 1 := by
            unfold need
            rw [if_pos (open_free hne)]
            simp [openAt]
          simp only [List.length_cons] at h1 h2 hn ⊢
          omega)
        refine ⟨(sp, m0.1) :: tail, ?_, fun reg j hj => ?_, ?_, ?_⟩
        · simp only [moves, hf]
          rw [k1]; simp
        · show runM (setR reg (sp, m0.1)) tail j = _
          rw [k2 _ _ hj, g2 _ _ hj]
        · have hlt : cyc (openAt sp m0.1 (m0 :: t)) + 1 ≤ cyc (m0 :: t) := by
            refine count_lt (fun x _ hx => ?_) ?_
            · simp only [decide_eq_true_eq] at hx ⊢
              exact hx.open hi.sp
            · obtain ⟨i, h1, h2, h3⟩ := hall.strict hi hm0
              obtain ⟨q, hq, rfl⟩ := List.mem_map.1 h1
              have hb := (hr q hq).1
              refine ⟨q.1.toNat, List.mem_range.2 (by omega), ?_⟩
              rw [show ((q.1.toNat : Nat) : Int) = q.1 by omega]
              exact ⟨by simpa using h2, by simpa using h3⟩
          have : (openAt sp m0.1 (m0 :: t)).length = (m0 :: t).length := by simp [openAt]
          simp only [List.length_cons] at k3 this ⊢
          omega
        · intro x hx
          rcases List.mem_cons.1 hx with rfl | hx
          · exact ⟨hsp, hm0r.1⟩
          · exact k4 x hx

end Go.Proofs.Ytfhijkapcdmdnaa
