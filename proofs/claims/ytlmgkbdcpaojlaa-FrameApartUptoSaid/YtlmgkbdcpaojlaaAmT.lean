/- The abstract machine: each operation's step, told for simp. -/
import Derived.Test.YtlmgkbdcpaojlaaAmS
namespace Go.AM

section
variable (A : Tab) (slot : Nat) (e : Env) (h : Heap)

/-- A slice's own cells. -/
def cellsF (b : Option Blk) : Option (List AV) :=
  match b with
  | some (.cells cs) => some cs
  | _ => none
theorem cellsF_cells (cs : List AV) : cellsF (some (.cells cs)) = some cs := rfl

/-- A new block. -/
def newF (slot : Nat) (b : Blk) (v : AV) (h : Heap) : Option (AV × Heap) :=
  match h[slot]? with
  | some .free => some (v, h.set slot b)
  | _ => none

theorem run_new_eq (b : Blk) (v : AV) : HC.run slot (.new b (.done v)) h = newF slot b v h := by
  simp only [HC.run, newF]
  cases h[slot]? with
  | none => rfl
  | some b' => cases b' <;> rfl

theorem stepF_call (f : AO) (args : List AO) : stepF A slot (.call f args) e h = match ev e f with
    | .fn g caps => match Acall A g (args.map (ev e) ++ caps) h with
      | some (v, h', _) => some (v, h')
      | none => none
    | _ => none := rfl
theorem stepF_move (x : AO) : stepF A slot (.move x) e h = some (ev e x, h) := rfl
theorem stepF_pick (c a b : AO) : stepF A slot (.pick c a b) e h = match ev e c with
    | .bool t => some (if t then ev e a else ev e b, h)
    | _ => none := by
  simp only [stepF, aop]; cases ev e c <;> rfl
theorem stepF_alloc (z : List AV) : stepF A slot (.alloc z) e h = newF slot (.cells z) (.mp slot 0) h := run_new_eq ..
theorem stepF_box (x : AO) : stepF A slot (.box x) e h = match cellsOf (ev e x) with
    | some cs => newF slot (.cells cs) (.mp slot 0) h
    | none => none := by
  simp only [stepF, aop]; cases cellsOf (ev e x) with
  | none => rfl
  | some cs => exact run_new_eq ..
theorem stepF_build (z : List AV) (ps : List (Nat × Nat × AO)) : stepF A slot (.build z ps) e h = match fillp e z ps with
    | some cs => some (.agg cs, h)
    | none => none := by
  simp only [stepF, aop]; cases fillp e z ps <;> rfl
theorem stepF_buildSlice (sz len : Nat) (z : List AV) (ps : List (Nat × Nat × AO)) : stepF A slot (.buildSlice sz len z ps) e h = match fillp e z ps with
    | some cs => newF slot (.cells cs) (.ms slot 0 len sz len true) h
    | none => none := by
  simp only [stepF, aop]; cases fillp e z ps with
  | none => rfl
  | some cs => exact run_new_eq ..
theorem stepF_load (ag : Bool) (sz : Nat) (p : AO) : stepF A slot (.load ag sz p) e h = match ev e p with
    | .ip row off => (match cget ag sz off row with | some v => some (v, h) | none => none)
    | .mp id off => match cellsF h[id]? with
      | some cs => (match cget ag sz off cs with | some v => some (v, h) | none => none)
      | none => none
    | _ => none := by
  simp only [stepF, aop]
  cases ev e p with
  | ip row off => dsimp only; cases cget ag sz off row <;> rfl
  | mp id off =>
    dsimp only
    simp only [HC.run, cellsF]
    cases h[id]? with
    | none => rfl
    | some b =>
      cases b with
      | cells cs => dsimp only [Blk.isFree]; cases cget ag sz off cs <;> rfl
      | _ => rfl
  | _ => rfl
theorem stepF_store (sz : Nat) (p x : AO) : stepF A slot (.store sz p x) e h = match ev e p with
    | .mp id off => match cellsOf (ev e x) with
      | some xs => match cellsF h[id]? with
        | some cs => if (xs.length = sz ∧ xs.all isSc = true) ∧ off + sz ≤ cs.length then some (.undef, h.set id (.cells (splice cs off xs))) else none
        | none => none
      | none => none
    | _ => none := by
  simp only [stepF, aop]
  cases ev e p with
  | mp id off =>
    cases cellsOf (ev e x) with
    | none => rfl
    | some xs =>
      dsimp only
      by_cases q : xs.length = sz ∧ xs.all isSc = true
      · rw [if_pos q]
        simp only [HC.run, cellsF, q, true_and]
        cases hb : h[id]? with
        | none => rfl
        | some b =>
          cases b with
          | cells cs =>
            dsimp only [Blk.isFree]
            by_cases q2 : off + sz ≤ cs.length
            · simp [q2, HC.run, hb, Blk.isFree]
            · simp [q2, HC.run]
          | _ => rfl
      · rw [if_neg q]
        simp only [HC.run, q, false_and, if_false]
        cases cellsF h[id]? <;> rfl
  | _ => simp only [HC.run]
theorem stepF_nilCheck (x : AO) : stepF A slot (.nilCheck x) e h = match ev e x with
    | .mp id off => some (.mp id off, h)
    | .ip row off => some (.ip row off, h)
    | _ => none := by
  simp only [stepF, aop]; cases ev e x <;> rfl
theorem stepF_bin (op : BinOp) (x y : AO) : stepF A slot (.bin op x y) e h = match abin op (ev e x) (ev e y) with | some v => some (v, h) | none => none := by
  simp only [stepF, aop]; cases abin op (ev e x) (ev e y) <;> rfl
theorem stepF_eq (neg : Bool) (k : EqK) (x y : AO) : stepF A slot (.eq neg k x y) e h = match aeq k (ev e x) (ev e y) with | some b => some (.bool (if neg then !b else b), h) | none => none := by
  simp only [stepF, aop]; cases aeq k (ev e x) (ev e y) <;> rfl
theorem stepF_un (op : UnOp) (x : AO) : stepF A slot (.un op x) e h = match aun op (ev e x) with | some v => some (v, h) | none => none := by
  simp only [stepF, aop]; cases aun op (ev e x) <;> rfl
theorem stepF_conv (k : IntKind) (x : AO) : stepF A slot (.conv k x) e h = match ev e x with | .int _ n => some (.int k (k.wrap n), h) | _ => none := by
  simp only [stepF, aop]; cases ev e x <;> rfl
theorem stepF_strId (x : AO) : stepF A slot (.strId x) e h = match ev e x with | .str s => some (.str s, h) | _ => none := by
  simp only [stepF, aop]; cases ev e x <;> rfl
theorem stepF_fn (f : Nat) (caps : List AO) : stepF A slot (.fn f caps) e h = some (.fn f (caps.map (ev e)), h) := rfl
theorem stepF_mkSlice (sz by_ : Nat) (z : List AV) (l c : AO) : stepF A slot (.mkSlice sz by_ z l c) e h = match ev e l, ev e c with
    | .int .i64 m, .int .i64 n => if 0 ≤ m ∧ m ≤ n ∧ n ≤ 9223372036854775807 ∧ roomy n.toNat by_ = true then newF slot (.cells (repeatCells n.toNat z)) (.ms slot 0 m.toNat sz n.toNat true) h else none
    | _, _ => none := by
  simp only [stepF, aop]
  generalize ev e l = a
  generalize ev e c = b
  cases a with
  | int k m =>
    cases k with
    | i64 =>
      cases b with
      | int k' n =>
        cases k' with
        | i64 =>
          dsimp only
          split
          · exact run_new_eq ..
          · rfl
        | _ => rfl
      | _ => rfl
    | _ => rfl
  | _ => rfl
theorem stepF_slice (sz : Nat) (x : AO) (lo hi mx : Option AO) : stepF A slot (.slice sz x lo hi mx) e h = match aslice e sz (ev e x) lo hi mx with | some v => some (v, h) | none => none := by
  simp only [stepF, aop]; cases aslice e sz (ev e x) lo hi mx <;> rfl
theorem stepF_strSlice (x : AO) (lo hi : Option AO) : stepF A slot (.strSlice x lo hi) e h = match ev e x with
    | .str s => match obound e s.length s.length hi with
      | some q => match obound e q 0 lo with
        | some p => some (.str ((s.take q).drop p), h)
        | none => none
      | none => none
    | _ => none := by
  simp only [stepF, aop]
  cases ev e x with
  | str s =>
    dsimp only
    cases obound e s.length s.length hi with
    | none => rfl
    | some q => dsimp only; cases obound e q 0 lo <;> rfl
  | _ => rfl
theorem stepF_fieldAddr (off : Nat) (p : AO) : stepF A slot (.fieldAddr off p) e h = match ev e p with
    | .mp id o => some (.mp id (o + off), h)
    | .ip row o => some (.ip row (o + off), h)
    | _ => none := by
  simp only [stepF, aop]; cases ev e p <;> rfl
theorem stepF_field (ag : Bool) (off sz : Nat) (x : AO) : stepF A slot (.field ag off sz x) e h = match ev e x with
    | .agg cs => (match cget ag sz off cs with | some v => some (v, h) | none => none)
    | _ => none := by
  simp only [stepF, aop]
  cases ev e x with
  | agg cs => dsimp only; cases cget ag sz off cs <;> rfl
  | _ => rfl
theorem stepF_idxAddr (sz : Nat) (x i : AO) : stepF A slot (.idxAddr sz x i) e h = match ev e x, ev e i with
    | .is s rows _, .int _ n => if s = sz ∧ 0 ≤ n then (match rows[n.toNat]? with | some row => some (.ip row 0, h) | none => none) else none
    | .ms id off len s _ _, .int _ n => if s = sz ∧ 0 ≤ n ∧ n < len then some (.mp id (off + n.toNat * sz), h) else none
    | _, _ => none := by
  simp only [stepF, aop]
  generalize ev e x = a
  generalize ev e i = b
  cases a with
  | is s rows f =>
    cases b with
    | int k n =>
      dsimp only
      split
      · cases rows[n.toNat]? <;> rfl
      · rfl
    | _ => rfl
  | ms id off len s cap ex =>
    cases b with
    | int k n => dsimp only; split <;> rfl
    | _ => rfl
  | _ => rfl
theorem stepF_idxArr (len sz : Nat) (p i : AO) : stepF A slot (.idxArr len sz p i) e h = match ev e p, ev e i with
    | .mp id o, .int _ n => if 0 ≤ n ∧ n < len then some (.mp id (o + n.toNat * sz), h) else none
    | .ip row o, .int _ n => if 0 ≤ n ∧ n < len then some (.ip row (o + n.toNat * sz), h) else none
    | _, _ => none := by
  simp only [stepF, aop]
  generalize ev e p = a
  generalize ev e i = b
  cases a with
  | mp id o =>
    cases b with
    | int k n => dsimp only; split <;> rfl
    | _ => rfl
  | ip row o =>
    cases b with
    | int k n => dsimp only; split <;> rfl
    | _ => rfl
  | _ => rfl
theorem stepF_strIndex (x i : AO) : stepF A slot (.strIndex x i) e h = match ev e x, ev e i with
    | .str s, .int _ n => if 0 ≤ n then (match s[n.toNat]? with | some b => some (.int .u8 b.toNat, h) | none => none) else none
    | _, _ => none := by
  simp only [stepF, aop]
  generalize ev e x = a
  generalize ev e i = b
  cases a with
  | str s =>
    cases b with
    | int k n =>
      dsimp only
      split
      · cases s[n.toNat]? <;> rfl
      · rfl
    | _ => rfl
  | _ => rfl
theorem stepF_extract (x : AO) (i : Nat) : stepF A slot (.extract x i) e h = match ev e x with
    | .tup vs => (match vs[i]? with | some v => some (v, h) | none => none)
    | _ => none := by
  simp only [stepF, aop]
  cases ev e x with
  | tup vs => dsimp only; cases vs[i]? <;> rfl
  | _ => rfl
theorem stepF_len0 (x : AO) : stepF A slot (.len 0 x) e h = match ev e x with
    | .str s => some (.int .i64 s.length, h)
    | _ => none := by
  simp only [stepF, aop]; cases ev e x <;> rfl
theorem stepF_len1 (x : AO) : stepF A slot (.len 1 x) e h = match ev e x with
    | .nils => some (.int .i64 0, h)
    | .is _ rows _ => some (.int .i64 rows.length, h)
    | .ms _ _ len _ _ _ => some (.int .i64 len, h)
    | _ => none := by
  simp only [stepF, aop]; cases ev e x <;> rfl
theorem stepF_min (x y : AO) : stepF A slot (.min x y) e h = match ev e x, ev e y with
    | .int k a, .int _ b => some (.int k (if b < a then b else a), h)
    | _, _ => none := by
  simp only [stepF, aop]
  generalize ev e x = a
  generalize ev e y = b
  cases a with
  | int k m => cases b <;> rfl
  | _ => rfl
theorem stepF_max (x y : AO) : stepF A slot (.max x y) e h = match ev e x, ev e y with
    | .int k a, .int _ b => some (.int k (if a < b then b else a), h)
    | _, _ => none := by
  simp only [stepF, aop]
  generalize ev e x = a
  generalize ev e y = b
  cases a with
  | int k m => cases b <;> rfl
  | _ => rfl

/-- All cells of a slice or a text. -/
def scellsF (v : AV) (h : Heap) : Option (List AV) :=
  match v with
  | .nils => some []
  | .is _ rows _ => some rows.flatten
  | .str s => some (ofBytes s)
  | .ms id off len sz _ _ => match cellsF h[id]? with
    | some cs => if off + len * sz ≤ cs.length then some ((cs.drop off).take (len * sz)) else none
    | none => none
  | _ => none

theorem run_scells (v : AV) (k : List AV → HC) : HC.run slot (scells v k) h = match scellsF v h with | some cs => (k cs).run slot h | none => none := by
  cases v <;> try rfl
  rename_i id off len sz cap ex
  simp only [scells, HC.run, scellsF, cellsF]
  cases hb : h[id]? with
  | none => rfl
  | some b =>
    cases b <;> simp [Blk.isFree, HC.run]
    split
    · rename_i q; simp [q]
    · rename_i q; simp only [HC.run]

theorem stepF_toStr (x : AO) : stepF A slot (.toStr x) e h = match ev e x with
    | .str _ => none
    | v => if ssz 1 v then (match scellsF v h with | some cs => (match bytesOf cs with | some s => some (.str s, h) | none => none) | none => none) else none := by
  have key : ∀ v, HC.run slot (if ssz 1 v = true then scells v fun cs => HC.ofOpt ((bytesOf cs).map .str) else .fail) h = if ssz 1 v = true then (match scellsF v h with | some cs => (match bytesOf cs with | some s => some (.str s, h) | none => none) | none => none) else none := by
    intro v
    split
    · rw [run_scells]
      cases scellsF v h with
      | none => rfl
      | some cs => dsimp only; cases bytesOf cs <;> rfl
    · rfl
  simp only [stepF, aop]
  cases ev e x <;> first | rfl | exact key _
theorem stepF_toBytes (x : AO) : stepF A slot (.toBytes x) e h = match ev e x with
    | .str s => newF slot (.cells (ofBytes s)) (.ms slot 0 s.length 1 s.length false) h
    | _ => none := by
  simp only [stepF, aop]
  cases ev e x <;> first | rfl | exact run_new_eq ..

/-- What is appended to nothing. -/
theorem stepF_append (sz by_ : Nat) (x y : AO) : stepF A slot (.append sz by_ x y) e h = match slen (ev e y) with
    | none => none
    | some n => if ssz sz (ev e y) = true then (match ev e x with
      | .nils => if n = 0 then some (.nils, h) else if roomy n by_ = true then (match scellsF (ev e y) h with
        | some ys => newF slot (.cells ys) (.ms slot 0 n sz n false) h
        | none => none) else none
      | .is s rows f => if n = 0 then some (.is s rows f, h) else if (f && s == sz && roomy (rows.length + n) by_) = true then (match scellsF (ev e y) h with
        | some ys => newF slot (.cells (rows.flatten ++ ys)) (.ms slot 0 (rows.length + n) sz (rows.length + n) false) h
        | none => none) else none
      | .ms id off len s cap ex => if n = 0 then some (.ms id off len s cap ex, h) else if (s == sz && roomy (len + n) by_) = true then (match scellsF (ev e y) h with
        | some ys => if ys.all isSc = true then (match cellsF h[id]? with
          | some cs => if off + len * s ≤ cs.length then
              if len + n ≤ cap then if off + len * s + ys.length ≤ cs.length then some (.ms id off (len + n) s cap ex, h.set id (.cells (splice cs (off + len * s) ys))) else none
              else if ex = true then newF slot (.cells ((cs.drop off).take (len * s) ++ ys)) (.ms slot 0 (len + n) s (len + n) false) h
              else newF slot (.cells ((cs.drop off).take (len * s) ++ ys)) (.ms slot 0 (len + n) s (len + n) false) (h.set id .dead)
            else none
          | none => none) else none
        | none => none) else none
      | _ => none) else none := by
  simp only [stepF, aop]
  cases slen (ev e y) with
  | none => rfl
  | some n =>
    dsimp only
    cases ssz sz (ev e y) with
    | false => rfl
    | true =>
      simp only [Bool.not_true, Bool.false_eq_true, if_false, if_true]
      cases ev e x with
      | nils =>
        dsimp only
        split
        · rfl
        · cases roomy n by_ with
          | false => rfl
          | true =>
            simp only [Bool.not_true, Bool.false_eq_true, if_false, if_true, run_scells]
            cases scellsF (ev e y) h with
            | none => rfl
            | some ys => exact run_new_eq ..
      | is s rows f =>
        dsimp only
        split
        · rfl
        · cases (f && s == sz && roomy (rows.length + n) by_) with
          | false => rfl
          | true =>
            simp only [Bool.not_true, Bool.false_eq_true, if_false, if_true, run_scells]
            cases scellsF (ev e y) h with
            | none => rfl
            | some ys => exact run_new_eq ..
      | ms id off len s cap ex =>
        dsimp only
        split
        · rfl
        · cases (s == sz && roomy (len + n) by_) with
          | false => rfl
          | true =>
            simp only [Bool.not_true, Bool.false_eq_true, if_false, if_true, run_scells]
            cases scellsF (ev e y) h with
            | none => rfl
            | some ys =>
              dsimp only
              cases ys.all isSc with
              | false => rfl
              | true =>
                simp only [Bool.not_true, Bool.false_eq_true, if_false, if_true, HC.run, cellsF]
                cases hb : h[id]? with
                | none => rfl
                | some b =>
                  cases b with
                  | cells cs =>
                    dsimp only [Blk.isFree]
                    simp only [Bool.false_eq_true, if_false]
                    by_cases q : off + len * s ≤ cs.length
                    · simp only [q, decide_true, Bool.not_true, Bool.false_eq_true, if_false, if_true]
                      by_cases q2 : len + n ≤ cap
                      · simp only [q2, if_true]
                        by_cases q3 : off + len * s + ys.length ≤ cs.length
                        · simp only [q3, if_true, HC.run, hb, Blk.isFree, Bool.false_eq_true, if_false]
                        · simp only [q3, if_false, HC.run]
                      · simp only [q2, if_false]
                        cases ex with
                        | true => exact run_new_eq ..
                        | false =>
                          simp only [Bool.false_eq_true, if_false]
                          rw [HC.run, hb]
                          exact run_new_eq ..
                    · simp only [q, decide_false, Bool.not_false, if_true, if_false, HC.run]
                  | _ => rfl
      | _ => rfl
end

/-! ### Numbers -/
section
variable (k : IntKind) (a b : Int)
theorem abin_add : abin .add (.int k a) (.int k b) = some (.int k (k.wrap (a + b))) := by simp [abin]
theorem abin_sub : abin .sub (.int k a) (.int k b) = some (.int k (k.wrap (a - b))) := by simp [abin]
theorem abin_mul : abin .mul (.int k a) (.int k b) = some (.int k (k.wrap (a * b))) := by simp [abin]
theorem abin_quo : abin .quo (.int k a) (.int k b) = if b = 0 then none else some (.int k (k.wrap (a.tdiv b))) := by simp [abin]
theorem abin_rem : abin .rem (.int k a) (.int k b) = if b = 0 then none else some (.int k (a.tmod b)) := by simp [abin]
theorem abin_eql : abin .eql (.int k a) (.int k b) = some (.bool (decide (a = b))) := by simp [abin]; rfl
theorem abin_neq : abin .neq (.int k a) (.int k b) = some (.bool (!decide (a = b))) := by simp [abin]; rfl
theorem abin_lss : abin .lss (.int k a) (.int k b) = some (.bool (decide (a < b))) := by simp [abin]
theorem abin_leq : abin .leq (.int k a) (.int k b) = some (.bool (decide (a ≤ b))) := by simp [abin]
theorem abin_gtr : abin .gtr (.int k a) (.int k b) = some (.bool (decide (a > b))) := by simp [abin]
theorem abin_geq : abin .geq (.int k a) (.int k b) = some (.bool (decide (a ≥ b))) := by simp [abin]
theorem abin_and : abin .and (.int k a) (.int k b) = some (.int k (k.wrap (BitVec.ofInt k.bits a &&& BitVec.ofInt k.bits b).toNat)) := by simp [abin]
theorem abin_or : abin .or (.int k a) (.int k b) = some (.int k (k.wrap (BitVec.ofInt k.bits a ||| BitVec.ofInt k.bits b).toNat)) := by simp [abin]
theorem abin_xor : abin .xor (.int k a) (.int k b) = some (.int k (k.wrap (BitVec.ofInt k.bits a ^^^ BitVec.ofInt k.bits b).toNat)) := by simp [abin]
theorem abin_shl (k' : IntKind) : abin .shl (.int k a) (.int k' b) = if b < 0 then none else some (.int k (k.wrap (a * 2 ^ (min b.toNat k.bits)))) := by simp [abin]
theorem abin_shr (k' : IntKind) : abin .shr (.int k a) (.int k' b) = if b < 0 then none else some (.int k (a.fdiv (2 ^ (min b.toNat k.bits)))) := by simp [abin]
theorem beq_dec (s t : List UInt8) : (s == t) = decide (s = t) := by
  by_cases h : s = t
  · subst h; simp
  · have : (s == t) = false := by simpa using h
    rw [this]; simp [h]
theorem abin_seql (s t : List UInt8) : abin .eql (.str s) (.str t) = some (.bool (decide (s = t))) := by simp [abin, beq_dec]
theorem abin_sneq (s t : List UInt8) : abin .neq (.str s) (.str t) = some (.bool (!decide (s = t))) := by simp [abin, beq_dec]
theorem aun_not (x : Bool) : aun .not (.bool x) = some (.bool (!x)) := by simp [aun]
theorem aun_neg : aun .neg (.int k a) = some (.int k (k.wrap (0 - a))) := by simp [aun]
end

theorem cellsOf_agg (cs : List AV) : cellsOf (.agg cs) = some cs := rfl
theorem cellsOf_int (k : IntKind) (n : Int) : cellsOf (.int k n) = some [.int k n] := rfl
theorem cellsOf_bool (b : Bool) : cellsOf (.bool b) = some [.bool b] := rfl
theorem cellsOf_str (s : List UInt8) : cellsOf (.str s) = some [.str s] := rfl
theorem cellsOf_nils : cellsOf .nils = some [.nils] := rfl
theorem cellsOf_is (s : Nat) (r : List (List AV)) (f : Bool) : cellsOf (.is s r f) = some [.is s r f] := rfl
theorem cellsOf_ms (id off len s cap : Nat) (ex : Bool) : cellsOf (.ms id off len s cap ex) = some [.ms id off len s cap ex] := rfl
theorem cellsOf_fn (f : Nat) (c : List AV) : cellsOf (.fn f c) = some [.fn f c] := rfl
theorem cellsOf_nilp : cellsOf .nilp = some [.nilp] := rfl
theorem cellsOf_mp (i o : Nat) : cellsOf (.mp i o) = some [.mp i o] := rfl
theorem cget_one (sz off : Nat) (cs : List AV) : cget false sz off cs = cs[off]? := by simp [cget]
theorem cget_agg (sz off : Nat) (cs : List AV) (h : off + sz ≤ cs.length) : cget true sz off cs = some (.agg ((cs.drop off).take sz)) := by simp [cget, h]
theorem ev_t (e : Env) (n : Nat) : ev e (.t n) = e n := rfl
theorem ev_c (e : Env) (v : AV) : ev e (.c v) = v := rfl
theorem fillp_nil (e : Env) (cs : List AV) : fillp e cs [] = some cs := rfl
theorem fillp_cons (e : Env) (cs : List AV) (off size : Nat) (x : AO) (r : List (Nat × Nat × AO)) (xs : List AV) (hx : cellsOf (ev e x) = some xs) (hl : xs.length = size) (ho : off + size ≤ cs.length) :
    fillp e cs ((off, size, x) :: r) = fillp e (splice cs off xs) r := by
  simp [fillp, hx, hl, ho]

theorem isSc_int (k : IntKind) (n : Int) : isSc (.int k n) = true := rfl
theorem isSc_bool (b : Bool) : isSc (.bool b) = true := rfl
theorem isSc_str (s : List UInt8) : isSc (.str s) = true := rfl
theorem isSc_nils : isSc .nils = true := rfl
theorem isSc_is (s : Nat) (r : List (List AV)) (f : Bool) : isSc (.is s r f) = true := rfl
theorem isSc_ms (id off len s cap : Nat) (ex : Bool) : isSc (.ms id off len s cap ex) = true := rfl
theorem isSc_fn (f : Nat) (c : List AV) : isSc (.fn f c) = true := rfl

end Go.AM
