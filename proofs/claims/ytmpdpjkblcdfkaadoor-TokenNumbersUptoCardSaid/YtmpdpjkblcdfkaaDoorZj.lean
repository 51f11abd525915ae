/- What is written is read again. -/
import Derived.Test.YtmpdpjkblcdfkaaDoorZi
import Derived.Test.YtmpdpjkblcdfkaaDoorAmW
namespace Go.Proofs.YtmpdpjkblcdfkaaDoor
open Go.AM
set_option maxRecDepth 20000
set_option maxHeartbeats 4000000
set_option linter.unusedSimpArgs false
set_option linter.unusedVariables false
attribute [local congr] andF_cg onF_cg bthen_cg bkeep_cg bcond_cg guardV_cg putF_cg guardF_cg ite_cg stepsF_cg
attribute [local simp] Brun_skip Brun_exit Brun_ret Brun_seq Brun_cond Brun_block Brun_region bthen_normal bthen_ret bthen_exit bblock_normal bblock_ret bblock_exit bkeep_some andF_some onF_some onF_none guardF_none guardF_some guardV_tup putF_some putF_none stepsF_nil stepsF_cons upd_apply ofL_cons ofL_nil bown_normal bown_ret banswer_normal banswer_ret aresults ares List.replicate stepF_call stepF_callD stepF_move stepF_pick stepF_alloc stepF_allocV stepF_box stepF_boxV stepF_build stepF_buildSlice stepF_buildSliceV stepF_load stepF_store stepF_nilCheck stepF_bin stepF_eq stepF_un stepF_conv stepF_strId strIdV_str strIdV_int stepF_toStr stepF_toBytes stepF_fn stepF_mkSlice stepF_slice stepF_strSlice stepF_fieldAddr stepF_field stepF_idxAddr stepF_idxArr stepF_index stepF_strIndex stepF_extract stepF_len0 stepF_len1 stepF_min stepF_max stepF_append stepF_appendF appF_none appF_row stepF_mkMap stepF_mkIface stepF_lookup stepF_mapUpdate stepF_ext aext_idx aext_count aext_same cellsF newF abin_add abin_sub abin_mul abin_quo abin_rem abin_eql abin_neq abin_lss abin_leq abin_gtr abin_geq abin_and abin_or abin_xor abin_shl abin_shr abin_seql abin_sneq aun_not aun_neg aeq_bool aeq_agg eqCells_nil eqCells_int eqCells_bool eqCells_str cellsOf_agg cellsOf_int cellsOf_bool cellsOf_str cellsOf_is cellsOf_ms cellsOf_fn cellsOf_nilp cellsOf_mp cellsOf_mm cellsOf_nilm cellsOf_nili cellsOf_ifc cellsOf_ip cget_one cget_agg ev_t ev_c fillp_nil fillp_cons isSc_int isSc_bool isSc_str isSc_is isSc_ms isSc_fn isSc_mm isSc_mp isSc_ip isSc_nilp isSc_nilm isSc_nili isSc_nilf isSc_ifc splice chunk strip strip.stripL imm imm.immL Areify_int Areify_bool Areify_str Areify_is Areify_nilp Areify_tup Areify_agg AreifyL andF_chi andF_ch onF_chi onF_ch bthen_ch bthen_chi bblock_ch bblock_chi bkeep_ch bkeep_chi bown_ch bown_chi banswer_ch banswer_chi isSome_ch bcond_ch guardV_ch1 guardV_ch0 chF_true chF_false chF_not
attribute [local simp ↓] andF_some andF_chi andF_ch onF_some onF_none onF_chi onF_ch bthen_normal bthen_ret bthen_exit bthen_ch bthen_chi bblock_normal bblock_ret bblock_exit bblock_ch bblock_chi bkeep_some bkeep_ch bkeep_chi bown_normal bown_ret bown_ch bown_chi banswer_normal banswer_ret banswer_ch banswer_chi bcond_ch guardV_ch1 guardV_ch0 guardV_tup guardF_none guardF_some putF_some putF_none stepsF_nil stepsF_cons chF_true chF_false Brun_seq Brun_cond Brun_block Brun_region Brun_skip Brun_ret Brun_exit stepF_call stepF_callD stepF_move stepF_pick stepF_alloc stepF_allocV stepF_box stepF_boxV stepF_build stepF_buildSlice stepF_buildSliceV stepF_load stepF_store stepF_nilCheck stepF_bin stepF_eq stepF_un stepF_conv stepF_strId stepF_toStr stepF_toBytes stepF_fn stepF_mkSlice stepF_slice stepF_strSlice stepF_fieldAddr stepF_field stepF_idxAddr stepF_idxArr stepF_index stepF_strIndex stepF_extract stepF_len0 stepF_len1 stepF_min stepF_max stepF_append stepF_appendF stepF_mkMap stepF_mkIface stepF_lookup stepF_mapUpdate stepF_ext
set_option maxHeartbeats 2000000
/-- What may stand behind a token that is written. -/
def Ends (u : List UInt8) : Prop := u = [] ∨ ∃ v, u = 32 :: v
theorem run_ends {p : Nat → Bool} {s u : List UInt8} (h : (s.all fun b => p b.toNat) = true) (hu : Ends u) (h32 : p 32 = false) : runLen p (s ++ u) = s.length := by
  unfold runLen
  induction s with
  | nil =>
    rcases hu with rfl | ⟨v, rfl⟩
    · rfl
    · simp [h32]
  | cons a t ih =>
    simp only [List.all_cons, Bool.and_eq_true] at h
    simp [List.takeWhile_cons, h.1, ih h.2]
theorem word_back {s u : List UInt8} (hw : isWord s = true) (hu : Ends u) : oneR (s ++ u) = .ok ((if isKw s = true then 2 else 1, s, 0), s.length) := by
  cases s with
  | nil => simp [isWord] at hw
  | cons b t =>
    have hi : isLet b.toNat = true ∧ allTail (b :: t) = true ∧ (b :: t).length ≤ 63 := by
      unfold isWord at hw
      simp only [Bool.and_eq_true, decide_eq_true_eq] at hw
      exact ⟨hw.1.1, hw.1.2, hw.2⟩
    have hr : runLen isTail ((b :: t) ++ u) = (b :: t).length := run_ends hi.2.1 hu (by decide)
    have ht : ((b :: t) ++ u).take (b :: t).length = b :: t := List.take_left
    rw [List.cons_append] at hr ht
    simp only [List.cons_append, oneR, hi.1, if_true, hr, ht, if_neg (show ¬ 63 < (b :: t).length by omega)]
/-! Numbers. -/
theorem dig_byte {k : Nat} (h : k < 10) : (UInt8.ofNat (48 + k)).toNat = 48 + k := by
  show (48 + k) % 256 = _
  omega
theorem dec_dig (n : Nat) : ∀ b ∈ Go.Lib.decDigits n, isDig b.toNat = true := by
  induction n using Nat.strongRecOn with
  | _ n ih =>
    intro b hb
    rw [Go.Lib.decDigits] at hb
    split at hb
    · simp only [List.mem_singleton] at hb
      subst hb
      rw [dig_byte (by omega)]
      simp only [isDig, decide_eq_true_eq]; omega
    · rcases List.mem_append.1 hb with h | h
      · exact ih (n / 10) (by omega) b h
      · simp only [List.mem_singleton] at h
        subst h
        rw [dig_byte (by omega)]
        simp only [isDig, decide_eq_true_eq]; omega
theorem digV_app (base : Nat) : ∀ (a b : List UInt8) (v : Nat), digV base v (a ++ b) = (digV base v a).bind fun w => digV base w b := by
  intro a
  induction a with
  | nil => intro b v; rfl
  | cons x t ih =>
    intro b v
    simp only [List.cons_append, digV]
    split
    · exact ih b _
    · rfl
theorem hexV_dig {k : Nat} (h : k < 10) : hexV (48 + k) = k := by
  unfold hexV
  rw [if_pos (by omega)]
  omega
theorem dec_val (n : Nat) (hn : n ≤ 8589934592) : digV 10 0 (Go.Lib.decDigits n) = some n := by
  induction n using Nat.strongRecOn with
  | _ n ih =>
    rw [Go.Lib.decDigits]
    split
    · rename_i h
      simp only [digV, dig_byte h, hexV_dig h, h, if_true]
      congr 1; omega
    · rename_i h
      have h2 : n % 10 < 10 := by omega
      rw [digV_app, ih (n / 10) (by omega) (by omega)]
      simp only [Option.bind_some, digV, dig_byte h2, hexV_dig h2, h2, if_true]
      congr 1; omega
theorem dec_head (n : Nat) (hn : 1 ≤ n) : ∃ a t, Go.Lib.decDigits n = a :: t ∧ a ≠ 48 := by
  induction n using Nat.strongRecOn with
  | _ n ih =>
    rw [Go.Lib.decDigits]
    split
    · rename_i h
      refine ⟨_, [], rfl, fun e => ?_⟩
      have := congrArg UInt8.toNat e
      rw [dig_byte h] at this
      have h48 : (48 : UInt8).toNat = 48 := rfl
      omega
    · obtain ⟨a, t, h1, h2⟩ := ih (n / 10) (by omega) (by omega)
      exact ⟨a, _, by rw [h1]; rfl, h2⟩
/-- A number's suffix. -/
def sufT (u l : Bool) : List UInt8 := (if u = true then [85] else []) ++ (if l = true then [76] else [])
theorem suf_read (u l : Bool) : sufR false false (sufT u l) = some (u, l) := by cases u <;> cases l <;> decide
theorem dec_ne (n : Nat) : Go.Lib.decDigits n ≠ [] := by
  intro h
  have := congrArg List.length h
  rw [Go.Lib.decDigits_length] at this
  have := Go.Lib.nDigits_pos n
  simp only [List.length_nil] at *
  omega
theorem hexPre_dec (n : Nat) (u l : Bool) : hexPre (Go.Lib.decDigits n ++ sufT u l) = false := by
  by_cases h : n = 0
  · subst h
    rw [show Go.Lib.decDigits 0 = [48] by rw [Go.Lib.decDigits]; rfl]
    cases u <;> cases l <;> decide
  · obtain ⟨a, t, h1, h2⟩ := dec_head n (by omega)
    rw [h1]
    cases hx : hexPre (a :: t ++ sufT u l) with
    | false => rfl
    | true =>
      obtain ⟨x, h3, _⟩ := (hexPre_iff _).1 hx
      simp at h3
      exact absurd h3 h2
theorem trim_dec (n : Nat) (u l : Bool) : Go.Lib.trimRightS (Go.Lib.decDigits n ++ sufT u l) ulS = Go.Lib.decDigits n := by
  unfold Go.Lib.trimRightS
  have hs : ∀ b ∈ (sufT u l).reverse, ulS.contains b = true := by cases u <;> cases l <;> decide
  rw [List.reverse_append, List.dropWhile_append_of_pos hs]
  have hd : ∀ b ∈ (Go.Lib.decDigits n).reverse, ¬ ulS.contains b = true := by
    intro b hb hc
    have h1 := dec_dig n b (List.mem_reverse.1 hb)
    have h2 : ∀ x ∈ ulS, isDig x.toNat = false := by decide
    rw [h2 b (by simpa using hc)] at h1
    cases h1
  have hdw : (Go.Lib.decDigits n).reverse.dropWhile (fun x => ulS.contains x) = (Go.Lib.decDigits n).reverse := by
    cases hr : (Go.Lib.decDigits n).reverse with
    | nil => rfl
    | cons a t => rw [List.dropWhile_cons_of_neg (hd a (by rw [hr]; simp))]
  rw [hdw, List.reverse_reverse]
theorem body_dec (n : Nat) (u l : Bool) : bodyR (Go.Lib.decDigits n ++ sufT u l) = Go.Lib.decDigits n := by
  unfold bodyR
  rw [hexPre_dec, if_neg (by simp), trim_dec]
theorem value_dec (n : Nat) (hn : n ≤ 4294967295) : ∃ t, valueR (Go.Lib.decDigits n) = some (n, t) ∧ (1 ≤ n → t = true) := by
  have hx : hexPre (Go.Lib.decDigits n) = false := by have := hexPre_dec n false false; simpa [sufT] using this
  unfold valueR
  rw [hx, if_neg (by simp)]
  by_cases h : n = 0
  · subst h
    refine ⟨false, ?_, by omega⟩
    rw [show Go.Lib.decDigits 0 = [48] by rw [Go.Lib.decDigits]; rfl]
    decide
  · obtain ⟨a, t, h1, h2⟩ := dec_head n (by omega)
    have hz : zeroPre (Go.Lib.decDigits n) = false := by rw [h1]; simpa [zeroPre] using h2
    rw [hz, if_neg (by simp), if_neg (dec_ne n), dec_val n (by omega)]
    exact ⟨true, rfl, fun _ => rfl⟩
theorem number_dec (n : Nat) (u l : Bool) (hn : n ≤ 4294967295) : numberR (Go.Lib.decDigits n ++ sufT u l) = if u = false ∧ 2147483647 < n then none else some (typT u l, n) := by
  obtain ⟨t, h1, h2⟩ := value_dec n hn
  unfold numberR
  rw [body_dec, List.drop_left, suf_read]
  dsimp only
  rw [h1]
  dsimp only
  rw [if_neg (by omega)]
  by_cases h3 : u = false ∧ 2147483647 < n
  · have := h2 (by omega)
    rw [if_pos ⟨h3.1, h3.2, this⟩, if_pos h3]
  · rw [if_neg (fun q => h3 ⟨q.1, q.2.1⟩), if_neg h3]
    cases u with
    | true => rfl
    | false =>
      have : ¬ 2147483647 < n := fun q => h3 ⟨rfl, q⟩
      simp [this]
theorem num_back (n : Nat) (u l : Bool) (hn : n ≤ 4294967295) {w : List UInt8} (hw : Ends w) :
    oneR (Go.Lib.decDigits n ++ sufT u l ++ w) = if u = false ∧ 2147483647 < n then .error 21 else .ok ((3, typT u l, (n : Int)), (Go.Lib.decDigits n ++ sufT u l).length) := by
  have hall : ((Go.Lib.decDigits n ++ sufT u l).all fun b => isTail b.toNat) = true := by
    rw [List.all_append, Bool.and_eq_true]
    refine ⟨List.all_eq_true.2 fun b hb => ?_, by cases u <;> cases l <;> decide⟩
    rw [tail_or, dec_dig n b hb, Bool.or_true]
  have hr := run_ends hall hw (by decide)
  have ht : (Go.Lib.decDigits n ++ sufT u l ++ w).take (Go.Lib.decDigits n ++ sufT u l).length = Go.Lib.decDigits n ++ sufT u l := List.take_left
  have hN := number_dec n u l hn
  have hd := dec_dig n
  have hne := dec_ne n
  generalize hs : Go.Lib.decDigits n ++ sufT u l = s at *
  cases hdd : Go.Lib.decDigits n with
  | nil => exact absurd hdd hne
  | cons b t =>
    rw [hdd] at hs hd
    have hbd := hd b (by simp)
    have hbl : isLet b.toNat = false := by
      simp only [isDig, isLet, decide_eq_true_eq, decide_eq_false_iff_not] at *
      omega
    subst hs
    simp only [List.cons_append] at *
    simp only [oneR, hbl, hbd, if_true, hr, ht, hN, Bool.false_eq_true, if_false]
    by_cases q : u = false ∧ 2147483647 < n
    · simp only [if_pos q]
    · simp only [if_neg q]
/-! Between quotes. -/
def octS (b : UInt8) : List UInt8 := [92, UInt8.ofNat (48 + b.toNat / 64), UInt8.ofNat (48 + b.toNat / 8 % 8), UInt8.ofNat (48 + b.toNat % 8)]
def insB (q b : UInt8) : List UInt8 := if b = 10 then [92, 110] else if b = q ∨ b = 92 then [92, b] else if 32 ≤ b.toNat ∧ b.toNat ≤ 126 then [b] else octS b
def ins (q : UInt8) (s : List UInt8) : List UInt8 := s.flatMap (insB q)
def quoteS (q : UInt8) (s : List UInt8) : List UInt8 := q :: (ins q s ++ [q])
theorem escS_oct {k : Nat} (h : k < 8) : escS (UInt8.ofNat (48 + k)) = none ∧ UInt8.ofNat (48 + k) ≠ 120 ∧ isOct (UInt8.ofNat (48 + k)).toNat = true := by
  have : ∀ x : Fin 8, escS (UInt8.ofNat (48 + x.val)) = none ∧ UInt8.ofNat (48 + x.val) ≠ 120 ∧ isOct (UInt8.ofNat (48 + x.val)).toNat = true := by decide
  exact this ⟨k, h⟩
theorem esc_oct (b : UInt8) (r : List UInt8) : escR (UInt8.ofNat (48 + b.toNat / 64) :: UInt8.ofNat (48 + b.toNat / 8 % 8) :: UInt8.ofNat (48 + b.toNat % 8) :: r) = (b, 3, true) := by
  have hb := UInt8.toNat_lt b
  obtain ⟨a1, a2, a3⟩ := escS_oct (k := b.toNat / 64) (by omega)
  obtain ⟨b1, b2, b3⟩ := escS_oct (k := b.toNat / 8 % 8) (by omega)
  obtain ⟨c1, c2, c3⟩ := escS_oct (k := b.toNat % 8) (by omega)
  have e1 : (UInt8.ofNat (48 + b.toNat / 64)).toNat = 48 + b.toNat / 64 := dig_byte (by omega)
  have e2 : (UInt8.ofNat (48 + b.toNat / 8 % 8)).toNat = 48 + b.toNat / 8 % 8 := dig_byte (by omega)
  have e3 : (UInt8.ofNat (48 + b.toNat % 8)).toNat = 48 + b.toNat % 8 := dig_byte (by omega)
  generalize UInt8.ofNat (48 + b.toNat / 64) = x at *
  generalize UInt8.ofNat (48 + b.toNat / 8 % 8) = y at *
  generalize UInt8.ofNat (48 + b.toNat % 8) = z at *
  have hrl : min 3 (runLen isOct (x :: y :: z :: r)) = 3 := by
    simp only [runLen, List.takeWhile_cons, a3, b3, c3, if_true, List.length_cons]
    omega
  have ho : octW 0 [x, y, z] = b.toNat := by
    show 8 * (8 * (8 * 0 + (x.toNat - 48)) + (y.toNat - 48)) + (z.toNat - 48) = b.toNat
    rw [e1, e2, e3]
    clear hrl a1 a2 a3 b1 b2 b3 c1 c2 c3
    omega
  unfold escR
  simp only [List.getElem?_cons_zero, a1, if_neg a2, hrl, List.take_succ_cons, List.take_zero, ho]
  refine Prod.ext (by simp) (Prod.ext rfl ?_)
  simp only [decide_eq_true_eq]
  omega
theorem quo_back (q : UInt8) (hq : q = 34 ∨ q = 39) (u : List UInt8) : ∀ (s : List UInt8) (f : Nat), (ins q s).length < f → quoR q f (ins q s ++ q :: u) = some (s, (ins q s).length + 1) := by
  have hq1 : ¬ (92 : UInt8) = q := by rcases hq with rfl | rfl <;> decide
  have hq2 : escS q = some q := by rcases hq with rfl | rfl <;> decide
  have hq3 : escS 92 = some 92 := by decide
  have hq4 : escS 110 = some 10 := by decide
  intro s
  induction s with
  | nil =>
    intro f hf
    cases f with
    | zero => simp at hf
    | succ f => simp [ins, quoR]
  | cons b t ih =>
    intro f hf
    have hi : ins q (b :: t) = insB q b ++ ins q t := by simp [ins]
    rw [hi] at hf ⊢
    cases f with
    | zero => simp at hf
    | succ f =>
      unfold insB at hf ⊢
      by_cases h1 : b = 10
      · subst h1
        simp only [if_true, List.length_append, List.length_cons, List.length_nil] at hf ⊢
        have ih2 := ih f (by omega)
        simp only [List.cons_append, List.nil_append, quoR, if_neg hq1, show ¬ (92 : UInt8) = 10 by decide, if_false, if_true, escR, List.getElem?_cons_zero, hq4, List.drop_succ_cons, List.drop_zero, ih2, Option.map_some]
        congr 2; omega
      · rw [if_neg h1] at hf ⊢
        by_cases h2 : b = q ∨ b = 92
        · rw [if_pos h2] at hf ⊢
          simp only [List.length_append, List.length_cons, List.length_nil] at hf ⊢
          have ih2 := ih f (by omega)
          have he : escS b = some b := by rcases h2 with rfl | rfl; exact hq2; exact hq3
          simp only [List.cons_append, List.nil_append, quoR, if_neg hq1, show ¬ (92 : UInt8) = 10 by decide, if_false, if_true, escR, List.getElem?_cons_zero, he, List.drop_succ_cons, List.drop_zero, ih2, Option.map_some]
          congr 2; omega
        · rw [if_neg h2] at hf ⊢
          have h2a : ¬ b = q := fun e => h2 (.inl e)
          have h2b : ¬ b = 92 := fun e => h2 (.inr e)
          by_cases h3 : 32 ≤ b.toNat ∧ b.toNat ≤ 126
          · rw [if_pos h3] at hf ⊢
            simp only [List.length_append, List.length_cons, List.length_nil] at hf ⊢
            have ih2 := ih f (by omega)
            simp only [List.cons_append, List.nil_append, quoR, if_neg h2a, if_neg h1, if_neg h2b, ih2, Option.map_some]
            congr 2; omega
          · rw [if_neg h3] at hf ⊢
            unfold octS at hf ⊢
            simp only [List.length_append, List.length_cons, List.length_nil] at hf ⊢
            have ih2 := ih f (by omega)
            have he := esc_oct b (ins q t ++ q :: u)
            simp only [List.cons_append, List.nil_append, quoR, if_neg hq1, show ¬ (92 : UInt8) = 10 by decide, if_false, if_true, he, List.drop_succ_cons, List.drop_zero, ih2, Option.map_some]
            congr 2; omega
theorem quoted_back (q : UInt8) (hq : q = 34 ∨ q = 39) (s u : List UInt8) : quoR q (quoteS q s ++ u).length ((quoteS q s ++ u).drop 1) = some (s, (ins q s).length + 1) := by
  have e : (quoteS q s ++ u).drop 1 = ins q s ++ q :: u := by simp [quoteS]
  rw [e]
  exact quo_back q hq u s _ (by simp only [quoteS, List.length_append, List.length_cons]; omega)
theorem str_back (s u : List UInt8) : oneR (quoteS 34 s ++ u) = .ok ((5, s, 0), (quoteS 34 s).length) := by
  have h := quoted_back 34 (.inl rfl) s u
  have e : (quoteS 34 s).length = (ins 34 s).length + 1 + 1 := by simp [quoteS]
  rw [e]
  generalize (ins 34 s).length + 1 = m at *
  unfold quoteS at h ⊢
  rw [List.cons_append] at h ⊢
  unfold oneR
  simp only [show isLet (34 : UInt8).toNat = false by decide, show isDig (34 : UInt8).toNat = false by decide, Bool.false_eq_true, if_false, or_true, if_true]
  rw [h]
theorem char_back (x : UInt8) (u : List UInt8) : oneR (quoteS 39 [x] ++ u) = .ok ((4, [], sgn x), (quoteS 39 [x]).length) := by
  have h := quoted_back 39 (.inr rfl) [x] u
  have e : (quoteS 39 [x]).length = (ins 39 [x]).length + 1 + 1 := by simp [quoteS]
  rw [e]
  generalize (ins 39 [x]).length + 1 = m at *
  unfold quoteS at h ⊢
  rw [List.cons_append] at h ⊢
  unfold oneR
  simp only [show isLet (39 : UInt8).toNat = false by decide, show isDig (39 : UInt8).toNat = false by decide, Bool.false_eq_true, if_false, true_or, if_true, show ¬ (39 : UInt8) = 34 by decide]
  rw [h]
/-! Signs. -/
theorem pre_ends {p s u : List UInt8} (hp : ¬ (32 : UInt8) ∈ p) (hu : Ends u) : hasPre p (s ++ u) = hasPre p s := by
  rcases hu with rfl | ⟨v, rfl⟩
  · rw [List.append_nil]
  · unfold hasPre
    by_cases h : p.length ≤ s.length
    · rw [List.take_append_of_le_length h]
    · have h1 : ¬ (s ++ 32 :: v).take p.length = p := by
        intro e
        apply hp
        rw [← e, List.take_append, List.mem_append]
        right
        rw [show p.length - s.length = (p.length - s.length - 1) + 1 by omega, List.take_succ_cons]
        exact List.mem_cons_self ..
      have h2 : ¬ s.take p.length = p := by
        intro e
        have := congrArg List.length e
        simp only [List.length_take] at this
        omega
      simp [h1, h2]
theorem sign_ends {b : UInt8} {t u : List UInt8} (hu : Ends u) : signR (b :: t ++ u) = signR (b :: t) := by
  have h : ∀ l : List (List UInt8), (∀ x ∈ l, ¬ (32 : UInt8) ∈ x) → l.find? (fun x => hasPre x (b :: t ++ u)) = l.find? (fun x => hasPre x (b :: t)) := by
    intro l
    induction l with
    | nil => intro _; rfl
    | cons x r ih =>
      intro hl
      simp only [List.find?_cons, pre_ends (hl x (by simp)) hu]
      rw [ih fun y hy => hl y (by simp [hy])]
  have h2 := h sgs (by decide)
  unfold signR
  rw [h2]
  rfl
theorem sign_chs {b : UInt8} {t : List UInt8} (h : signR (b :: t) ≠ []) : b ∈ chs := by
  unfold signR at h
  split at h
  · rename_i x hx
    have h1 := List.find?_some hx
    have h2 := List.mem_of_find?_eq_some hx
    have h3 : ∀ x ∈ sgs, ∃ c ∈ chs, x.head? = some c := by decide
    obtain ⟨c, hc, h4⟩ := h3 x h2
    have h5 : (b :: t).take x.length = x := by simpa [hasPre] using h1
    cases x with
    | nil => simp at h4
    | cons y r =>
      simp at h4 h5
      rw [h5.1, h4]
      exact hc
  · dsimp only at h
    split at h
    · rename_i hi
      have : ∀ (l : List UInt8), 0 ≤ Go.Lib.indexByte l b → b ∈ l := by
        intro l
        induction l with
        | nil => intro hx; simp [Go.Lib.indexByte] at hx
        | cons a r ih =>
          intro hx
          unfold Go.Lib.indexByte at hx
          by_cases q : a = b
          · rw [q]; simp
          · have : ¬ (a == b) = true := by simpa using q
            rw [if_neg this] at hx
            rcases indexByte_lt r b with h6 | h6
            · by_cases q2 : Go.Lib.indexByte r b = -1
              · rw [q2] at hx; simp at hx
              · have : 0 ≤ Go.Lib.indexByte r b := by
                  split at hx
                  · omega
                  · omega
                exact List.mem_cons_of_mem _ (ih this)
            · rw [h6] at hx; simp at hx
      exact this chs hi
    · exact absurd rfl h
theorem sign_back {s u : List UInt8} (h0 : s ≠ []) (h : signR s = s) (hu : Ends u) : oneR (s ++ u) = .ok ((6, s, 0), s.length) := by
  cases s with
  | nil => exact absurd rfl h0
  | cons b t =>
    have hc := sign_chs (b := b) (t := t) (by rw [h]; simp)
    have h2 : ∀ x ∈ chs, isLet x.toNat = false ∧ isDig x.toNat = false ∧ x ≠ 39 ∧ x ≠ 34 := by decide
    obtain ⟨h3, h4, h5, h6⟩ := h2 b hc
    have h7 := sign_ends (b := b) (t := t) hu
    rw [h, List.cons_append] at h7
    simp only [List.cons_append, oneR, h3, h4, h5, h6, Bool.false_eq_true, if_false, or_self, h7]
    simp
def unsP : List UInt8 := [117, 110, 115, 105, 103, 110, 101, 100]
def longP : List UInt8 := [108, 111, 110, 103]
def hasSuf (p s : List UInt8) : Bool := decide (p.length ≤ s.length) && decide (s.drop (s.length - p.length) = p)
/-- A byte of a number. -/
def b8 (n : Int) : UInt8 := UInt8.ofNat (IntKind.u8.wrap n).toNat
theorem sgn_b8 {n : Int} (h1 : -128 ≤ n) (h2 : n ≤ 127) : sgn (b8 n) = n := by
  have h : ∀ x : Fin 256, sgn (b8 ((x.val : Int) - 128)) = (x.val : Int) - 128 := by decide +kernel
  have := h ⟨(n + 128).toNat, by omega⟩
  simp only at this
  rwa [show (((n + 128).toNat : Int) - 128) = n by omega] at this
def mayN (t : List UInt8) (n : Int) : Bool :=
  if t = typT false false ∨ t = typT false true then decide (0 ≤ n ∧ n ≤ 2147483647)
  else if t = typT true false ∨ t = typT true true then decide (0 ≤ n ∧ n ≤ 4294967295) else false
/-- May a token be written? -/
def mayS (k : Int) (t : List UInt8) (n : Int) : Bool :=
  if k = 0 then decide (t = [] ∧ n = 0) else if k = 1 then decide (n = 0) && (isWord t && !isKw t) else if k = 2 then decide (n = 0) && isKw t
  else if k = 3 then mayN t n else if k = 4 then decide (t = [] ∧ -128 ≤ n ∧ n ≤ 127) else if k = 5 then decide (n = 0)
  else if k = 6 then decide (n = 0 ∧ t ≠ [] ∧ signR t = t) else false
/-- How it is written. -/
def writtenS (k : Int) (t : List UInt8) (n : Int) : List UInt8 :=
  if k = 3 then Go.Lib.itoa n ++ sufT (hasPre unsP t) (hasSuf longP t) else if k = 4 then quoteS 39 [b8 n] else if k = 5 then quoteS 34 t else t
def refsuf (t : List UInt8) : List UInt8 := if t = typT false true then sufT false true else if t = typT true false then sufT true false else if t = typT true true then sufT true true else []
/-- How the document writes it. -/
def refS (k : Int) (t : List UInt8) (n : Int) : Option (List UInt8) :=
  if k = 1 ∨ k = 2 ∨ k = 6 then some t else if k = 3 then (if n < 0 ∨ 4294967295 < n then none else some (Go.Lib.itoa n ++ refsuf t))
  else if k = 4 then (if n < -128 ∨ 127 < n then none else some (quoteS 39 [b8 n])) else if k = 5 then some (quoteS 34 t) else none
theorem itoa_dec {n : Int} (h : 0 ≤ n) : Go.Lib.itoa n = Go.Lib.decDigits n.toNat := by unfold Go.Lib.itoa; rw [if_neg (by omega)]
theorem mayN_inv {t : List UInt8} {n : Int} (h : mayN t n = true) : ∃ u l, t = typT u l ∧ 0 ≤ n ∧ n ≤ 4294967295 ∧ (u = false → n ≤ 2147483647) := by
  unfold mayN at h
  split at h
  · rename_i q
    simp only [decide_eq_true_eq] at h
    rcases q with rfl | rfl
    · exact ⟨false, false, rfl, by omega, by omega, fun _ => h.2⟩
    · exact ⟨false, true, rfl, by omega, by omega, fun _ => h.2⟩
  · split at h
    · rename_i q
      simp only [decide_eq_true_eq] at h
      rcases q with rfl | rfl
      · exact ⟨true, false, rfl, by omega, by omega, fun q => by cases q⟩
      · exact ⟨true, true, rfl, by omega, by omega, fun q => by cases q⟩
    · cases h
theorem mayN_mk (u l : Bool) {n : Int} (h0 : 0 ≤ n) (h1 : n ≤ 4294967295) (h2 : ¬ (u = false ∧ 2147483647 < n)) : mayN (typT u l) n = true := by
  cases u
  · have h3 : n ≤ 2147483647 := by
      by_cases q : 2147483647 < n
      · exact absurd ⟨rfl, q⟩ h2
      · omega
    unfold mayN
    rw [if_pos (by cases l <;> simp), decide_eq_true_eq]
    exact ⟨h0, h3⟩
  · unfold mayN
    rw [if_neg (by cases l <;> decide), if_pos (by cases l <;> simp), decide_eq_true_eq]
    exact ⟨h0, h1⟩
theorem refsuf_typ (u l : Bool) : refsuf (typT u l) = sufT u l := by cases u <;> cases l <;> decide
theorem wsuf_typ (u l : Bool) : sufT (hasPre unsP (typT u l)) (hasSuf longP (typT u l)) = sufT u l := by cases u <;> cases l <;> decide
theorem num_ok (u l : Bool) {n : Int} (h0 : 0 ≤ n) (h1 : n ≤ 4294967295) {w : List UInt8} (hw : Ends w) :
    oneR (Go.Lib.itoa n ++ sufT u l ++ w) = if u = false ∧ 2147483647 < n then .error 21 else .ok ((3, typT u l, n), (Go.Lib.itoa n ++ sufT u l).length) := by
  rw [itoa_dec h0, num_back n.toNat u l (by omega) hw]
  have e : ((n.toNat : Nat) : Int) = n := by omega
  by_cases q : u = false ∧ 2147483647 < n
  · rw [if_pos ⟨q.1, by omega⟩, if_pos q]
  · rw [if_neg (fun p => q ⟨p.1, by omega⟩), if_neg q, e]
theorem dec_len0 (n : Int) (h0 : 0 ≤ n) (x : List UInt8) : Go.Lib.itoa n ++ x ≠ [] := by
  rw [itoa_dec h0]
  intro h
  exact dec_ne _ (List.append_eq_nil_iff.1 h).1
theorem quote_ne (q : UInt8) (s : List UInt8) : quoteS q s ≠ [] := by simp [quoteS]
theorem word_ne {s : List UInt8} (h : isWord s = true) : s ≠ [] := by rintro rfl; simp [isWord] at h
/-- What is written is read again. -/
theorem may_back {k : Int} {t : List UInt8} {n : Int} (hk : k ≠ 0) (h : mayS k t n = true) {u : List UInt8} (hu : Ends u) :
    writtenS k t n ≠ [] ∧ refS k t n = some (writtenS k t n) ∧ oneR (writtenS k t n ++ u) = .ok ((k, t, n), (writtenS k t n).length) := by
  unfold mayS at h
  rw [if_neg hk] at h
  by_cases k1 : k = 1
  · subst k1
    simp only [if_true, Bool.and_eq_true, decide_eq_true_eq, Bool.not_eq_true'] at h
    obtain ⟨rfl, hw, hkw⟩ := h
    have := word_back hw hu
    rw [hkw] at this
    exact ⟨word_ne hw, rfl, this⟩
  · by_cases k2 : k = 2
    · subst k2
      simp only [show ¬ (2 : Int) = 1 by decide, if_true, if_false, Bool.and_eq_true, decide_eq_true_eq] at h
      obtain ⟨rfl, hkw⟩ := h
      have := word_back (kw_word hkw) hu
      rw [hkw] at this
      exact ⟨word_ne (kw_word hkw), rfl, this⟩
    · by_cases k3 : k = 3
      · subst k3
        simp only [show ¬ (3 : Int) = 1 by decide, show ¬ (3 : Int) = 2 by decide, if_true, if_false] at h
        obtain ⟨u', l, rfl, h0, h1, h2⟩ := mayN_inv h
        have hn := num_ok u' l h0 h1 hu
        rw [if_neg (fun q => by have := h2 q.1; omega)] at hn
        unfold writtenS refS
        rw [if_pos rfl, wsuf_typ, if_neg (by decide), if_pos rfl, if_neg (by omega), refsuf_typ]
        exact ⟨dec_len0 n h0 _, rfl, hn⟩
      · by_cases k4 : k = 4
        · subst k4
          simp only [show ¬ (4 : Int) = 1 by decide, show ¬ (4 : Int) = 2 by decide, show ¬ (4 : Int) = 3 by decide, if_true, if_false, decide_eq_true_eq] at h
          obtain ⟨rfl, h1, h2⟩ := h
          have := char_back (b8 n) u
          rw [sgn_b8 h1 h2] at this
          unfold writtenS refS
          rw [if_neg (by decide), if_pos rfl, if_neg (by decide), if_neg (by decide), if_pos rfl, if_neg (by omega)]
          exact ⟨quote_ne _ _, rfl, this⟩
        · by_cases k5 : k = 5
          · subst k5
            simp only [show ¬ (5 : Int) = 1 by decide, show ¬ (5 : Int) = 2 by decide, show ¬ (5 : Int) = 3 by decide, show ¬ (5 : Int) = 4 by decide, if_true, if_false, decide_eq_true_eq] at h
            subst h
            exact ⟨quote_ne _ _, rfl, str_back t u⟩
          · by_cases k6 : k = 6
            · subst k6
              simp only [show ¬ (6 : Int) = 1 by decide, show ¬ (6 : Int) = 2 by decide, show ¬ (6 : Int) = 3 by decide, show ¬ (6 : Int) = 4 by decide, show ¬ (6 : Int) = 5 by decide, if_true, if_false, decide_eq_true_eq] at h
              obtain ⟨rfl, h1, h2⟩ := h
              exact ⟨h1, rfl, sign_back h1 h2 hu⟩
            · rw [if_neg k1, if_neg k2, if_neg k3, if_neg k4, if_neg k5, if_neg k6] at h
              cases h
/-- A word is read where one stands. -/
theorem word_inv {s t : List UInt8} {k v : Int} {m : Nat} (hk : k = 1 ∨ k = 2) (h : oneR s = .ok ((k, t, v), m)) (hm : m = s.length) : v = 0 ∧ t = s ∧ isWord s = true ∧ k = if isKw s = true then 2 else 1 := by
  unfold oneR at h
  split at h
  · cases h
  · rename_i b r
    split at h
    · rename_i hl
      split at h
      · cases h
      · rename_i h63
        have hr : runLen isTail (b :: r) = (b :: r).length := by cases h; exact hm
        have ht : (b :: r).take (runLen isTail (b :: r)) = b :: r := by rw [hr, List.take_length]
        rw [ht] at h
        cases h
        refine ⟨rfl, rfl, ?_, rfl⟩
        have hall : allTail (b :: r) = true := runLen_all.1 hr
        simp only [isWord, hl, hall, Bool.and_self, decide_eq_true_eq]
        simp
        simp at h63 hr
        omega
    · split at h
      · split at h
        · cases h
        · cases h; omega
      · split at h
        · split at h
          · cases h
          · split at h
            · cases h; omega
            · split at h
              · cases h; omega
              · cases h
        · split at h
          · cases h
          · cases h; omega
theorem sign_inv {s t : List UInt8} {v : Int} {m : Nat} (h : oneR s = .ok ((6, t, v), m)) : v = 0 ∧ t = signR s := by
  unfold oneR at h
  split at h
  · cases h
  · split at h
    · split at h
      · cases h
      · injection h with h
        simp only [Prod.mk.injEq] at h
        have := h.1.1
        split at this <;> omega
    · split at h
      · split at h
        · cases h
        · injection h with h
          simp only [Prod.mk.injEq] at h
          omega
      · split at h
        · split at h
          · cases h
          · split at h
            · injection h with h
              simp only [Prod.mk.injEq] at h
              omega
            · split at h
              · injection h with h
                simp only [Prod.mk.injEq] at h
                omega
              · cases h
        · split at h
          · cases h
          · cases h
            exact ⟨rfl, rfl⟩
/-- What the document reads again may be written. -/
theorem ref_may {k : Int} {t : List UInt8} {n : Int} {s : List UInt8} (hk : k ≠ 0) (h : refS k t n = some s) (h0 : s ≠ []) (ho : oneR s = .ok ((k, t, n), s.length)) : mayS k t n = true := by
  unfold mayS
  rw [if_neg hk]
  have hnil : Ends [] := .inl rfl
  by_cases k1 : k = 1
  · subst k1
    have h : t = s := by simpa [refS] using h
    subst h
    obtain ⟨rfl, _, h1, h2⟩ := word_inv (.inl rfl) ho rfl
    have h3 : isKw t = false := by
      cases q : isKw t with
      | false => rfl
      | true => rw [q] at h2; simp at h2
    simp [h1, h3]
  · by_cases k2 : k = 2
    · subst k2
      have h : t = s := by simpa [refS] using h
      subst h
      obtain ⟨rfl, _, h1, h2⟩ := word_inv (.inr rfl) ho rfl
      have h3 : isKw t = true := by
        cases q : isKw t with
        | true => rfl
        | false => rw [q] at h2; simp at h2
      simp [h3]
    · by_cases k3 : k = 3
      · subst k3
        unfold refS at h
        rw [if_neg (by decide), if_pos rfl] at h
        split at h
        · cases h
        · rename_i hr
          have h : Go.Lib.itoa n ++ refsuf t = s := by simpa using h
          have key : ∀ u l, refsuf t = sufT u l → (t = typT u l → mayN t n = true) ∧ t = typT u l := by
            intro u l hs
            have hn := num_ok u l (n := n) (by omega) (by omega) hnil
            rw [List.append_nil, ← hs, h, ho] at hn
            by_cases q : u = false ∧ 2147483647 < n
            · rw [if_pos q] at hn; cases hn
            · rw [if_neg q] at hn
              injection hn with hn
              simp only [Prod.mk.injEq] at hn
              have ht := hn.1.2.1
              exact ⟨fun e => by rw [e]; exact mayN_mk u l (by omega) (by omega) q, ht⟩
          have hex : ∃ u l, refsuf t = sufT u l := by
            unfold refsuf
            split
            · exact ⟨_, _, rfl⟩
            · split
              · exact ⟨_, _, rfl⟩
              · split
                · exact ⟨_, _, rfl⟩
                · exact ⟨false, false, rfl⟩
          obtain ⟨u, l, hs⟩ := hex
          obtain ⟨p1, p2⟩ := key u l hs
          simp [p1 p2]
      · by_cases k4 : k = 4
        · subst k4
          unfold refS at h
          rw [if_neg (by decide), if_neg (by decide), if_pos rfl] at h
          split at h
          · cases h
          · rename_i hr
            have h : quoteS 39 [b8 n] = s := by simpa using h
            subst h
            have := char_back (b8 n) []
            rw [List.append_nil, ho] at this
            injection this with this
            simp only [Prod.mk.injEq] at this
            have ht := this.1.2.1
            simp [ht]
            omega
        · by_cases k5 : k = 5
          · subst k5
            have h : quoteS 34 t = s := by simpa [refS] using h
            subst h
            have := str_back t []
            rw [List.append_nil, ho] at this
            injection this with this
            simp only [Prod.mk.injEq] at this
            simp [this.1.2.2]
          · by_cases k6 : k = 6
            · subst k6
              have h : t = s := by simpa [refS] using h
              subst h
              obtain ⟨h1, h2⟩ := sign_inv ho
              simp only [show ¬ (6 : Int) = 1 by decide, show ¬ (6 : Int) = 2 by decide, show ¬ (6 : Int) = 3 by decide, show ¬ (6 : Int) = 4 by decide, show ¬ (6 : Int) = 5 by decide, if_true, if_false, decide_eq_true_eq]
              exact ⟨h1, h0, h2.symm⟩
            · unfold refS at h
              rw [if_neg (by omega), if_neg k3, if_neg k4, if_neg k5] at h
              cases h
/-- What comes of writing a token. -/
def outS (k : Int) (t : List UInt8) (n : Int) : Option (List UInt8) := if mayS k t n = true then some (writtenS k t n) else none
theorem out_some {k : Int} {t : List UInt8} {n : Int} (hk : k ≠ 0) {s : List UInt8} (h : refS k t n = some s) (h0 : s ≠ []) (ho : oneR s = .ok ((k, t, n), s.length)) : outS k t n = some s := by
  have hm := ref_may hk h h0 ho
  obtain ⟨_, h2, _⟩ := may_back hk hm (u := []) (.inl rfl)
  unfold outS
  rw [if_pos hm, ← h2, h]
theorem out_none {k : Int} {t : List UInt8} {n : Int} (hk : k ≠ 0) (h : ∀ s, refS k t n = some s → s ≠ [] → oneR s ≠ .ok ((k, t, n), s.length)) : outS k t n = none := by
  unfold outS
  by_cases hm : mayS k t n = true
  · obtain ⟨h1, h2, h3⟩ := may_back hk hm (u := []) (.inl rfl)
    rw [List.append_nil] at h3
    exact absurd h3 (h _ h2 h1)
  · rw [if_neg hm]

end Go.Proofs.YtmpdpjkblcdfkaaDoor
