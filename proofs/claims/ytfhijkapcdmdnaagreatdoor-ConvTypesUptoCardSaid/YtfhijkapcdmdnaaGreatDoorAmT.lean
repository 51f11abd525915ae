/- The abstract machine: each operation's step, told for simp. -/
import Derived.Test.YtfhijkapcdmdnaaGreatDoorAmS
namespace Go.AM
section
variable (A:Tab) (d:Bool) (slot:Nat) (e:Env) (h:Heap)
def cellsF (b:Option Blk):Option (List AV) :=
 match b with
 | some (.cells cs)=>some cs
 | _=>none
def onF (r:Option AV) (h:Heap):Option (AV × Heap) :=
 match r with
 | some v=>some (v,h)
 | none=>none
theorem onF_some (v:AV) (h:Heap):onF (some v) h=some (v,h):=rfl
theorem onF_none (h:Heap):onF none h=none:=rfl
def newF (slot:Nat) (b:Blk) (v:AV) (h:Heap):Option (AV × Heap) :=
 match h[slot]? with
 | some .free=>some (v,h.set slot b)
 | _=>none
theorem run_new_eq (b:Blk) (v:AV):HC.run slot (.new b (.done v)) h=newF slot b v h:=by
 simp only [HC.run,newF]
 cases h[slot]? with
 | none=>rfl
 | some b'=>cases b'<;>rfl
theorem stepF_call (f:AO) (args:List AO):stepF A false slot (.call f args) e h=match ev e f with
  | .fn g first caps=>Ccall A g (first ++ args.map (ev e) ++ caps) h
  | _=>none:=rfl
theorem stepF_callD (f:AO) (args:List AO):stepF A true slot (.call f args) e h=match ev e f with
  | .fn g first caps=>if isPure A g (first ++ args.map (ev e) ++ caps)=true then Ccall A g (first ++ args.map (ev e) ++ caps) h else none
  | _=>none:=rfl
theorem stepF_move (x:AO):stepF A d slot (.move x) e h=some (ev e x,h):=rfl
theorem stepF_pick (c a b:AO):stepF A d slot (.pick c a b) e h=match ev e c with
  | .bool t=>some (if t then ev e a else ev e b,h)
  | _=>none:=by
 simp only [stepF,aop];cases ev e c<;>rfl
theorem stepF_alloc (z:List AV):stepF A d slot (.alloc false z) e h=newF slot (.cells z) (.mp slot 0) h:=run_new_eq ..
theorem stepF_allocV (z:List AV):stepF A d slot (.alloc true z) e h=some (.ip (strip.stripL z) 0,h):=rfl
theorem stepF_box (x:AO):stepF A d slot (.box false x) e h=match cellsOf (ev e x) with
  | some cs=>newF slot (.cells cs) (.mp slot 0) h
  | none=>none:=by
 simp only [stepF,aop];cases cellsOf (ev e x) with
 | none=>rfl
 | some cs=>exact run_new_eq ..
theorem stepF_boxV (x:AO):stepF A d slot (.box true x) e h=match cellsOf (ev e x) with
  | some cs=>if imm.immL cs=true then some (.ip (strip.stripL cs) 0,h) else none
  | none=>none:=by
 simp only [stepF,aop];cases cellsOf (ev e x) with
 | none=>rfl
 | some cs=>dsimp only;simp only [if_true];cases imm.immL cs<;>rfl
theorem stepF_build (z:List AV) (ps:List (Nat × Nat × AO)):stepF A d slot (.build z ps) e h=match fillp e z ps with
  | some cs=>some (.agg cs,h)
  | none=>none:=by
 simp only [stepF,aop];cases fillp e z ps<;>rfl
theorem stepF_buildSlice (sz len:Nat) (z:List AV) (ps:List (Nat × Nat × AO)):stepF A d slot (.buildSlice false sz len z ps) e h=match fillp e z ps with
  | some cs=>newF slot (.cells cs) (.ms slot 0 len sz len true) h
  | none=>none:=by
 simp only [stepF,aop];cases fillp e z ps with
 | none=>rfl
 | some cs=>exact run_new_eq ..
theorem stepF_buildSliceV (sz len:Nat) (z:List AV) (ps:List (Nat × Nat × AO)):stepF A d slot (.buildSlice true sz len z ps) e h=match fillp e z ps with
  | some cs=>if imm.immL cs=true then some (.is (chunk sz len (strip.stripL cs)) .full,h) else none
  | none=>none:=by
 simp only [stepF,aop];cases fillp e z ps with
 | none=>rfl
 | some cs=>dsimp only;simp only [if_true];cases imm.immL cs<;>rfl
theorem stepF_load (ag:Bool) (sz:Nat) (p:AO):stepF A d slot (.load ag sz p) e h=match ev e p with
  | .ip row off=>(match cget ag sz off row with|some v=>some (v,h)|none=>none)
  | .mp id off=>match cellsF h[id]? with
   | some cs=>(match cget ag sz off cs with|some v=>some (v,h)|none=>none)
   | none=>none
  | _=>none:=by
 simp only [stepF,aop]
 cases ev e p with
 | ip row off=>dsimp only;cases cget ag sz off row<;>rfl
 | mp id off =>
  dsimp only
  simp only [HC.run,cellsF]
  cases h[id]? with
  | none=>rfl
  | some b =>
   cases b with
   | cells cs=>dsimp only [Blk.isFree];cases cget ag sz off cs<;>rfl
   | _=>rfl
 | _=>rfl
theorem stepF_store (sz:Nat) (p x:AO):stepF A d slot (.store sz p x) e h=match ev e p with
  | .mp id off=>match cellsOf (ev e x) with
   | some xs=>match cellsF h[id]? with
    | some cs=>if (xs.length=sz∧xs.all isSc=true)∧off+sz≤cs.length then some (.undef,h.set id (.cells (splice cs off xs))) else none
    | none=>none
   | none=>none
  | _=>none:=by
 simp only [stepF,aop]
 cases ev e p with
 | mp id off =>
  cases cellsOf (ev e x) with
  | none=>rfl
  | some xs =>
   dsimp only
   by_cases q:xs.length=sz∧xs.all isSc=true
   ·rw [if_pos q]
    simp only [HC.run,cellsF,q,true_and]
    cases hb:h[id]? with
    | none=>rfl
    | some b =>
     cases b with
     | cells cs =>
      dsimp only [Blk.isFree]
      by_cases q2:off+sz≤cs.length
      ·simp [q2,HC.run,hb,Blk.isFree]
      ·simp [q2,HC.run]
     | _=>rfl
   ·rw [if_neg q]
    simp only [HC.run,q,false_and,if_false]
    cases cellsF h[id]?<;>rfl
 | _=>simp only [HC.run]
theorem stepF_nilCheck (x:AO):stepF A d slot (.nilCheck x) e h=match ev e x with
  | .mp id off=>some (.mp id off,h)
  | .ip row off=>some (.ip row off,h)
  | _=>none:=by
 simp only [stepF,aop];cases ev e x<;>rfl
theorem stepF_bin (op:BinOp) (x y:AO):stepF A d slot (.bin op x y) e h=onF (abin op (ev e x) (ev e y)) h:=by
 simp only [stepF,aop];cases abin op (ev e x) (ev e y)<;>rfl
theorem stepF_eq (neg:Bool) (k:EqK) (x y:AO):stepF A d slot (.eq neg k x y) e h=match aeq k (ev e x) (ev e y) with|some b=>some (.bool (if neg then !b else b),h)|none=>none:=by
 simp only [stepF,aop];cases aeq k (ev e x) (ev e y)<;>rfl
theorem stepF_un (op:UnOp) (x:AO):stepF A d slot (.un op x) e h=onF (aun op (ev e x)) h:=by
 simp only [stepF,aop];cases aun op (ev e x)<;>rfl
theorem stepF_conv (k:IntKind) (x:AO):stepF A d slot (.conv k x) e h=match ev e x with | .int _ n=>some (.int k (k.wrap n),h)|_=>none:=by
 simp only [stepF,aop];cases ev e x<;>rfl
theorem stepF_strId (x:AO):stepF A d slot (.strId x) e h=onF (strIdV (ev e x)) h:=by
 simp only [stepF,aop];cases strIdV (ev e x)<;>rfl
theorem strIdV_str (s:List UInt8):strIdV (.str s)=some (.str s):=rfl
theorem strIdV_int (k:IntKind) (n:Int):strIdV (.int k n)=if 0≤n∧n<128 then some (.str [UInt8.ofNat n.toNat]) else none:=rfl
theorem stepF_fn (f:Nat) (first caps:List AO):stepF A d slot (.fn f first caps) e h=some (.fn f (first.map (ev e)) (caps.map (ev e)),h):=rfl
theorem stepF_mkSlice (vl:Bool) (sz by_:Nat) (z:List AV) (l c:AO):stepF A d slot (.mkSlice vl sz by_ z l c) e h=match ev e l,ev e c with
  | .int .i64 m,.int .i64 n=>if 0≤m∧m≤n∧n≤9223372036854775807∧roomy n.toNat by_=true then
    if vl=true then newF slot .tok (.is (List.replicate m.toNat (strip.stripL z)) (.tok slot sz)) h else newF slot (.cells (repeatCells n.toNat z)) (.ms slot 0 m.toNat sz n.toNat true) h else none
  | _,_=>none:=by
 simp only [stepF,aop]
 generalize ev e l=a
 generalize ev e c=b
 cases a with
 | int k m =>
  cases k with
  | i64 =>
   cases b with
   | int k' n =>
    cases k' with
    | i64 =>
     dsimp only
     split
     ·split<;>exact run_new_eq ..
     ·rfl
    | _=>rfl
   | _=>rfl
  | _=>rfl
 | _=>rfl
theorem stepF_slice (sz:Nat) (x:AO) (lo hi mx:Option AO):stepF A d slot (.slice sz x lo hi mx) e h=onF (aslice e sz (ev e x) lo hi mx) h:=by
 simp only [stepF,aop];cases aslice e sz (ev e x) lo hi mx<;>rfl
theorem stepF_strSlice (x:AO) (lo hi:Option AO):stepF A d slot (.strSlice x lo hi) e h=match ev e x with
  | .str s=>match obound e s.length s.length hi with
   | some q=>match obound e q 0 lo with
    | some p=>some (.str ((s.take q).drop p),h)
    | none=>none
   | none=>none
  | _=>none:=by
 simp only [stepF,aop]
 cases ev e x with
 | str s =>
  dsimp only
  cases obound e s.length s.length hi with
  | none=>rfl
  | some q=>dsimp only;cases obound e q 0 lo<;>rfl
 | _=>rfl
theorem stepF_fieldAddr (off:Nat) (p:AO):stepF A d slot (.fieldAddr off p) e h=match ev e p with
  | .mp id o=>some (.mp id (o+off),h)
  | .ip row o=>some (.ip row (o+off),h)
  | _=>none:=by
 simp only [stepF,aop];cases ev e p<;>rfl
theorem stepF_field (ag:Bool) (off sz:Nat) (x:AO):stepF A d slot (.field ag off sz x) e h=match ev e x with
  | .agg cs=>(match cget ag sz off cs with|some v=>some (v,h)|none=>none)
  | _=>none:=by
 simp only [stepF,aop]
 cases ev e x with
 | agg cs=>dsimp only;cases cget ag sz off cs<;>rfl
 | _=>rfl
theorem stepF_idxAddr (sz:Nat) (x i:AO):stepF A d slot (.idxAddr sz x i) e h=match ev e x,ev e i with
  | .is rows _,.int _ n=>if 0≤n then (match rows[n.toNat]? with|some row=>if row.length=sz then some (.ip row 0,h) else none|none=>none) else none
  | .ms id off len s _ _,.int _ n=>if s=sz∧0≤n∧n<len then some (.mp id (off+n.toNat*sz),h) else none
  | _,_=>none:=by
 simp only [stepF,aop]
 generalize ev e x=a
 generalize ev e i=b
 cases a with
 | is rows f =>
  cases b with
  | int k n =>
   dsimp only
   split
   ·cases rows[n.toNat]? with
    | none=>rfl
    | some row=>dsimp only;split<;>rfl
   ·rfl
  | _=>rfl
 | ms id off len s cap ex =>
  cases b with
  | int k n=>dsimp only;split<;>rfl
  | _=>rfl
 | _=>rfl
theorem stepF_index (ag:Bool) (len sz:Nat) (x i:AO):stepF A d slot (.index ag len sz x i) e h=match ev e x,ev e i with
  | .agg cs,.int _ n=>if 0≤n∧n<len then (match cget ag sz (n.toNat*sz) cs with|some v=>some (v,h)|none=>none) else none
  | _,_=>none:=by
 simp only [stepF,aop]
 generalize ev e x=a
 generalize ev e i=b
 cases a with
 | agg cs =>
  cases b with
  | int k n =>
   dsimp only
   split
   ·cases cget ag sz (n.toNat*sz) cs<;>rfl
   ·rfl
  | _=>rfl
 | _=>rfl
theorem stepF_idxArr (len sz:Nat) (p i:AO):stepF A d slot (.idxArr len sz p i) e h=match ev e p,ev e i with
  | .mp id o,.int _ n=>if 0≤n∧n<len then some (.mp id (o+n.toNat*sz),h) else none
  | .ip row o,.int _ n=>if 0≤n∧n<len then some (.ip row (o+n.toNat*sz),h) else none
  | _,_=>none:=by
 simp only [stepF,aop]
 generalize ev e p=a
 generalize ev e i=b
 cases a with
 | mp id o =>
  cases b with
  | int k n=>dsimp only;split<;>rfl
  | _=>rfl
 | ip row o =>
  cases b with
  | int k n=>dsimp only;split<;>rfl
  | _=>rfl
 | _=>rfl
theorem stepF_strIndex (x i:AO):stepF A d slot (.strIndex x i) e h=match ev e x,ev e i with
  | .str s,.int _ n=>if 0≤n then (match s[n.toNat]? with|some b=>some (.int .u8 b.toNat,h)|none=>none) else none
  | _,_=>none:=by
 simp only [stepF,aop]
 generalize ev e x=a
 generalize ev e i=b
 cases a with
 | str s =>
  cases b with
  | int k n =>
   dsimp only
   split
   ·cases s[n.toNat]?<;>rfl
   ·rfl
  | _=>rfl
 | _=>rfl
theorem stepF_extract (x:AO) (i:Nat):stepF A d slot (.extract x i) e h=match ev e x with
  | .tup vs=>(match vs[i]? with|some v=>some (v,h)|none=>none)
  | _=>none:=by
 simp only [stepF,aop]
 cases ev e x with
 | tup vs=>dsimp only;cases vs[i]?<;>rfl
 | _=>rfl
theorem stepF_len0 (x:AO):stepF A d slot (.len 0 x) e h=match ev e x with
  | .str s=>some (.int .i64 s.length,h)
  | _=>none:=by
 simp only [stepF,aop];cases ev e x<;>rfl
theorem stepF_len1 (x:AO):stepF A d slot (.len 1 x) e h=match ev e x with
  | .is rows _=>some (.int .i64 rows.length,h)
  | .ms _ _ len _ _ _=>some (.int .i64 len,h)
  | _=>none:=by
 simp only [stepF,aop];cases ev e x<;>rfl
theorem stepF_min (x y:AO):stepF A d slot (.min x y) e h=match ev e x,ev e y with
  | .int k a,.int _ b=>some (.int k (if b<a then b else a),h)
  | _,_=>none:=by
 simp only [stepF,aop]
 generalize ev e x=a
 generalize ev e y=b
 cases a with
 | int k m=>cases b<;>rfl
 | _=>rfl
theorem stepF_max (x y:AO):stepF A d slot (.max x y) e h=match ev e x,ev e y with
  | .int k a,.int _ b=>some (.int k (if a<b then b else a),h)
  | _,_=>none:=by
 simp only [stepF,aop]
 generalize ev e x=a
 generalize ev e y=b
 cases a with
 | int k m=>cases b<;>rfl
 | _=>rfl
def scellsF (v:AV) (h:Heap):Option (List AV) :=
 match v with
 | .is rows _=>some rows.flatten
 | .str s=>some (ofBytes s)
 | .ms id off len sz _ _=>match cellsF h[id]? with
  | some cs=>if off+len*sz≤cs.length then some ((cs.drop off).take (len*sz)) else none
  | none=>none
 | _=>none
theorem run_scells (v:AV) (k:List AV→HC):HC.run slot (scells v k) h=match scellsF v h with|some cs=>(k cs).run slot h|none=>none:=by
 cases v<;>try rfl
 rename_i id off len sz cap ex
 simp only [scells,HC.run,scellsF,cellsF]
 cases hb:h[id]? with
 | none=>rfl
 | some b =>
  cases b<;>simp [Blk.isFree,HC.run]
  split
  ·rfl
  ·rename_i q;simp only [HC.run]
theorem stepF_toStr (x:AO):stepF A d slot (.toStr x) e h=match ev e x with
  | .str _=>none
  | v=>if ssz 1 v then (match scellsF v h with|some cs=>(match bytesOf cs with|some s=>some (.str s,h)|none=>none)|none=>none) else none:=by
 have key:∀ v,HC.run slot (if ssz 1 v=true then scells v fun cs=>HC.ofOpt ((bytesOf cs).map .str) else .fail) h=if ssz 1 v=true then (match scellsF v h with|some cs=>(match bytesOf cs with|some s=>some (.str s,h)|none=>none)|none=>none) else none:=by
  intro v
  split
  ·rw [run_scells]
   cases scellsF v h with
   | none=>rfl
   | some cs=>dsimp only;cases bytesOf cs<;>rfl
  ·rfl
 simp only [stepF,aop]
 cases ev e x<;>first|rfl|exact key _
theorem stepF_toBytes (vl:Bool) (x:AO):stepF A d slot (.toBytes vl x) e h=match ev e x with
  | .str s=>if vl=true then newF slot .tok (.is (chunk 1 s.length (ofBytes s)) (.tok slot 1)) h else newF slot (.cells (ofBytes s)) (.ms slot 0 s.length 1 s.length false) h
  | _=>none:=by
 simp only [stepF,aop]
 cases ev e x with
 | str s=>dsimp only;cases vl<;>exact run_new_eq ..
 | _=>rfl
def roomOK (cap:Cap) (sz:Nat) (rows:List (List AV)) (h:Heap):Bool :=
 match cap with
 | .tok id s=>s == sz && (match h[id]? with|some .tok=>true|_=>false)
 | cap=>cap.tight && rowsz sz rows
def spend (cap:Cap) (h:Heap):Heap :=
 match cap with
 | .tok id _=>h.set id .dead
 | _=>h
theorem stepF_appendV (sz by_:Nat) (x y:AO):stepF A d slot (.append true sz by_ x y) e h=match slen (ev e y) with
  | none=>none
  | some n=>if ssz sz (ev e y)=true then (match ev e x with
   | .is rows cap=>if n=0 then some (.is rows cap,h) else if roomy (rows.length+n) by_=true then (match scellsF (ev e y) h with
    | some ys=>if (imm.immL ys && ys.all isSc)=true then if roomOK cap sz rows h=true then newF slot .tok (.is (rows ++ chunk sz n (strip.stripL ys)) (.tok slot sz)) (spend cap h) else none else none
    | none=>none) else none
   | .ms id off len s cap ex=>if n=0 then some (.ms id off len s cap ex,h) else if (s == sz && roomy (len+n) by_)=true then (match scellsF (ev e y) h with
    | some ys=>if ys.all isSc=true then (match cellsF h[id]? with
     | some cs=>if off+len*s≤cs.length then
       if len+n≤cap then if off+len*s+ys.length≤cs.length then some (.ms id off (len+n) s cap ex,h.set id (.cells (splice cs (off+len*s) ys))) else none
       else if ex=true then newF slot (.cells ((cs.drop off).take (len*s) ++ ys)) (.ms slot 0 (len+n) s (len+n) false) h
       else newF slot (.cells ((cs.drop off).take (len*s) ++ ys)) (.ms slot 0 (len+n) s (len+n) false) (h.set id .dead)
      else none
     | none=>none) else none
    | none=>none) else none
   | _=>none) else none:=by
 simp only [stepF,aop]
 cases slen (ev e y) with
 | none=>rfl
 | some n =>
  dsimp only
  cases ssz sz (ev e y) with
  | false=>rfl
  | true =>
   simp only [Bool.not_true,Bool.false_eq_true,if_false,if_true]
   cases ev e x with
   | is rows cap =>
    dsimp only
    split
    ·rfl
    ·cases roomy (rows.length+n) by_ with
     | false=>rfl
     | true =>
      simp only [Bool.not_true,Bool.false_eq_true,if_false,if_true,run_scells]
      cases scellsF (ev e y) h with
      | none=>rfl
      | some ys =>
       dsimp only
       cases (imm.immL ys && ys.all isSc) with
       | false=>rfl
       | true =>
        simp only [Bool.not_true,Bool.false_eq_true,if_false,if_true]
        have plain:∀ c:Cap,(∀ id s,c ≠ .tok id s)→HC.run slot (if (!(c.tight && rowsz sz rows))=true then .fail else .new .tok (.done (.is (rows ++ chunk sz n (strip.stripL ys)) (.tok slot sz)))) h =
          if (c.tight && rowsz sz rows)=true then newF slot .tok (.is (rows ++ chunk sz n (strip.stripL ys)) (.tok slot sz)) h else none:=fun c _=>by
         by_cases hq:(c.tight && rowsz sz rows)=true
         ·simp only [hq,Bool.not_true,Bool.false_eq_true,if_false,if_true];exact run_new_eq ..
         ·have hq:(c.tight && rowsz sz rows)=false:=by simpa using hq
          simp only [hq,Bool.not_false,Bool.false_eq_true,if_false,if_true];rfl
        cases cap with
        | no=>exact plain .no fun _ _ h=>by cases h
        | nn=>exact plain .nn fun _ _ h=>by cases h
        | nil=>exact plain .nil fun _ _ h=>by cases h
        | full=>exact plain .full fun _ _ h=>by cases h
        | tok id s =>
         simp only [roomOK,spend]
         by_cases hs:s=sz
         ·subst hs
          simp only [ne_eq,not_true_eq_false,if_false,beq_self_eq_true,Bool.true_and,HC.run]
          cases hb:h[id]? with
          | none=>rfl
          | some b =>
           cases b with
           | tok =>
            simp only [Blk.isFree,Bool.false_eq_true,if_false,if_true]
            rw [HC.run,hb]
            exact run_new_eq ..
           | _=>rfl
         ·have:(s == sz)=false:=by simpa using hs
          simp [hs,this,HC.run]
   | ms id off len s cap ex =>
    dsimp only
    split
    ·rfl
    ·cases (s == sz && roomy (len+n) by_) with
     | false=>rfl
     | true =>
      simp only [Bool.not_true,Bool.false_eq_true,if_false,if_true,run_scells]
      cases scellsF (ev e y) h with
      | none=>rfl
      | some ys =>
       dsimp only
       cases ys.all isSc with
       | false=>rfl
       | true =>
        simp only [Bool.not_true,Bool.false_eq_true,if_false,if_true,HC.run,cellsF]
        cases hb:h[id]? with
        | none=>rfl
        | some b =>
         cases b with
         | cells cs =>
          dsimp only [Blk.isFree]
          simp only [Bool.false_eq_true,if_false]
          by_cases q:off+len*s≤cs.length
          ·simp only [q,decide_true,Bool.not_true,Bool.false_eq_true,if_false,if_true]
           by_cases q2:len+n≤cap
           ·simp only [q2,if_true]
            by_cases q3:off+len*s+ys.length≤cs.length
            ·simp only [q3,if_true,HC.run,hb,Blk.isFree,Bool.false_eq_true,if_false]
            ·simp only [q3,if_false,HC.run]
           ·simp only [q2,if_false]
            cases ex with
            | true=>exact run_new_eq ..
            | false =>
             simp only [Bool.false_eq_true,if_false]
             rw [HC.run,hb]
             exact run_new_eq ..
          ·simp only [q,decide_false,Bool.not_false,if_true,if_false,HC.run]
         | _=>rfl
   | _=>rfl
theorem stepF_append (sz by_:Nat) (x y:AO):stepF A d slot (.append false sz by_ x y) e h=match slen (ev e y) with
  | none=>none
  | some n=>if ssz sz (ev e y)=true then (match ev e x with
   | .is rows cap=>if n=0 then some (.is rows cap,h) else if roomy (rows.length+n) by_=true then (match scellsF (ev e y) h with
    | some ys=>if (cap.tight && rowsz sz rows)=true then newF slot (.cells (rows.flatten ++ ys)) (.ms slot 0 (rows.length+n) sz (rows.length+n) false) h else none
    | none=>none) else none
   | .ms id off len s cap ex=>if n=0 then some (.ms id off len s cap ex,h) else if (s == sz && roomy (len+n) by_)=true then (match scellsF (ev e y) h with
    | some ys=>if ys.all isSc=true then (match cellsF h[id]? with
     | some cs=>if off+len*s≤cs.length then
       if len+n≤cap then if off+len*s+ys.length≤cs.length then some (.ms id off (len+n) s cap ex,h.set id (.cells (splice cs (off+len*s) ys))) else none
       else if ex=true then newF slot (.cells ((cs.drop off).take (len*s) ++ ys)) (.ms slot 0 (len+n) s (len+n) false) h
       else newF slot (.cells ((cs.drop off).take (len*s) ++ ys)) (.ms slot 0 (len+n) s (len+n) false) (h.set id .dead)
      else none
     | none=>none) else none
    | none=>none) else none
   | _=>none) else none:=by
 simp only [stepF,aop]
 cases slen (ev e y) with
 | none=>rfl
 | some n =>
  dsimp only
  cases ssz sz (ev e y) with
  | false=>rfl
  | true =>
   simp only [Bool.not_true,Bool.false_eq_true,if_false,if_true]
   cases ev e x with
   | is rows cap =>
    dsimp only
    split
    ·rfl
    ·cases roomy (rows.length+n) by_ with
     | false=>rfl
     | true =>
      simp only [Bool.not_true,Bool.false_eq_true,if_false,if_true,run_scells]
      cases scellsF (ev e y) h with
      | none=>rfl
      | some ys =>
       dsimp only
       by_cases hq:(cap.tight && rowsz sz rows)=true
       ·simp only [hq,Bool.not_true,Bool.false_eq_true,if_false,if_true];exact run_new_eq ..
       ·have hq:(cap.tight && rowsz sz rows)=false:=by simpa using hq
        simp only [hq,Bool.not_false,Bool.false_eq_true,if_false,if_true];rfl
   | ms id off len s cap ex =>
    dsimp only
    split
    ·rfl
    ·cases (s == sz && roomy (len+n) by_) with
     | false=>rfl
     | true =>
      simp only [Bool.not_true,Bool.false_eq_true,if_false,if_true,run_scells]
      cases scellsF (ev e y) h with
      | none=>rfl
      | some ys =>
       dsimp only
       cases ys.all isSc with
       | false=>rfl
       | true =>
        simp only [Bool.not_true,Bool.false_eq_true,if_false,if_true,HC.run,cellsF]
        cases hb:h[id]? with
        | none=>rfl
        | some b =>
         cases b with
         | cells cs =>
          dsimp only [Blk.isFree]
          simp only [Bool.false_eq_true,if_false]
          by_cases q:off+len*s≤cs.length
          ·simp only [q,decide_true,Bool.not_true,Bool.false_eq_true,if_false,if_true]
           by_cases q2:len+n≤cap
           ·simp only [q2,if_true]
            by_cases q3:off+len*s+ys.length≤cs.length
            ·simp only [q3,if_true,HC.run,hb,Blk.isFree,Bool.false_eq_true,if_false]
            ·simp only [q3,if_false,HC.run]
           ·simp only [q2,if_false]
            cases ex with
            | true=>exact run_new_eq ..
            | false =>
             simp only [Bool.false_eq_true,if_false]
             rw [HC.run,hb]
             exact run_new_eq ..
          ·simp only [q,decide_false,Bool.not_false,if_true,if_false,HC.run]
         | _=>rfl
   | _=>rfl
def mapF (b:Option Blk):Option (List (AV × AV × Nat) × Nat) :=
 match b with
 | some (.map es ck)=>some (es,ck)
 | _=>none
theorem mapF_map (es:List (AV × AV × Nat)) (ck:Nat):mapF (some (.map es ck))=some (es,ck):=rfl
theorem stepF_mkMap:stepF A d slot .mkMap e h=newF slot (.map [] 0) (.mm slot) h:=run_new_eq ..
theorem stepF_ext (k:ExtK) (args:List AO):stepF A d slot (.ext k args) e h=onF (aext k (args.map (ev e))) h:=by
 simp only [stepF,aop];cases aext k (args.map (ev e))<;>rfl
theorem aext_idx (s:List UInt8) (c:Int):aext .idxByte [.str s,.int .u8 c]=some (.int .i64 (Go.Lib.indexByte s c.toNat.toUInt8)):=rfl
theorem aext_count (s:List UInt8) (c:Int):aext .count [.str s,.int .u8 c]=some (.int .i64 (Go.Lib.countByte s c.toNat.toUInt8)):=rfl
theorem aext_same (x:AV):aext .same [x]=some x:=rfl
theorem stepF_mkIface (t:Nat) (x:AO):stepF A d slot (.mkIface t x) e h=some (.ifc t (ev e x),h):=rfl
theorem stepF_lookup (kg:Bool) (ks:List CK) (z:AV) (ok:Bool) (m k:AO):stepF A d slot (.lookup kg ks z ok m k) e h=match keyCells kg (ev e k) with
  | none=>none
  | some key=>if keyOK ks key=true then (match ev e m with
   | .nilm=>some (found z ok none,h)
   | .mm id=>(match mapF h[id]? with
    | some (es,_)=>(match findA kg ks key es 0 with|some r=>some (found z ok r,h)|none=>none)
    | none=>none)
   | _=>none) else none:=by
 simp only [stepF,aop]
 cases keyCells kg (ev e k) with
 | none=>rfl
 | some key =>
  dsimp only
  cases keyOK ks key with
  | false=>rfl
  | true =>
   simp only [Bool.not_true,Bool.false_eq_true,if_false,if_true]
   cases ev e m with
   | mm id =>
    dsimp only
    simp only [HC.run,mapF]
    cases h[id]? with
    | none=>rfl
    | some b =>
     cases b with
     | map es ck=>dsimp only [Blk.isFree];cases findA kg ks key es 0<;>rfl
     | _=>rfl
   | _=>rfl
theorem stepF_mapUpdate (kg:Bool) (ks:List CK) (m k x:AO):stepF A d slot (.mapUpdate kg ks m k x) e h=match keyCells kg (ev e k) with
  | none=>none
  | some key=>if keyOK ks key=true then (match ev e m with
   | .mm id=>(match mapF h[id]? with
    | some (es,ck)=>(match findA kg ks key es 0 with
     | some (some (i,_))=>some (.undef,h.set id (.map (es.modify i fun q=>(ev e k,ev e x,q.2.2)) ck))
     | some none=>some (.undef,h.set id (.map (es ++ [(ev e k,ev e x,ck)]) (ck+1)))
     | none=>none)
    | none=>none)
   | _=>none) else none:=by
 simp only [stepF,aop]
 cases keyCells kg (ev e k) with
 | none=>rfl
 | some key =>
  dsimp only
  cases keyOK ks key with
  | false=>rfl
  | true =>
   simp only [Bool.not_true,Bool.false_eq_true,if_false,if_true]
   cases ev e m with
   | mm id =>
    dsimp only
    simp only [HC.run,mapF]
    cases hb:h[id]? with
    | none=>rfl
    | some b =>
     cases b with
     | map es ck =>
      dsimp only [Blk.isFree]
      simp only [Bool.false_eq_true,if_false]
      cases findA kg ks key es 0 with
      | none=>rfl
      | some r =>
       cases r with
       | none=>simp only [HC.run,hb,Blk.isFree,Bool.false_eq_true,if_false]
       | some p=>obtain ⟨i,u⟩:=p;simp only [HC.run,hb,Blk.isFree,Bool.false_eq_true,if_false]
     | _=>rfl
   | _=>rfl
end
def Keeps (h h':Heap):Prop:=h.length≤h'.length∧∀ (k:Nat) (b:Blk),h[k]?=some b→b ≠ .tok→b ≠ .free→h'[k]?=some b
theorem Keeps.refl (h:Heap):Keeps h h:=⟨Nat.le_refl _,fun _ _ h _ _=>h⟩
theorem Keeps.trans {a b c:Heap} (p:Keeps a b) (q:Keeps b c):Keeps a c:=⟨Nat.le_trans p.1 q.1,fun k x h1 h2 h3=>q.2 k x (p.2 k x h1 h2 h3) h2 h3⟩
theorem Keeps.cells {h h':Heap} (p:Keeps h h') {k:Nat} {cs:List AV} (hk:h[k]?=some (.cells cs)):h'[k]?=some (.cells cs):=p.2 k _ hk (fun q=>by cases q) fun q=>by cases q
theorem Keeps.map {h h':Heap} (p:Keeps h h') {k:Nat} {es:List (AV × AV × Nat)} {ck:Nat} (hk:h[k]?=some (.map es ck)):h'[k]?=some (.map es ck):=p.2 k _ hk (fun q=>by cases q) fun q=>by cases q
theorem Keeps.app (h r:Heap):Keeps h (h ++ r):=⟨by simp,fun k b hk _ _=>by rw [List.getElem?_append_left (set_lt hk)];exact hk⟩
theorem roomOK_tok {h:Heap} {id:Nat} (hid:h[id]?=some .tok) (sz:Nat) (rows:List (List AV)):roomOK (.tok id sz) sz rows h=true:=by simp [roomOK,hid]
theorem roomOK_nil (sz:Nat) (h:Heap):roomOK .nil sz [] h=true:=rfl
def andI (k:IntKind) (a b:Int):Int:=k.wrap (BitVec.ofInt k.bits a &&& BitVec.ofInt k.bits b).toNat
def orI (k:IntKind) (a b:Int):Int:=k.wrap (BitVec.ofInt k.bits a ||| BitVec.ofInt k.bits b).toNat
def xorI (k:IntKind) (a b:Int):Int:=k.wrap (BitVec.ofInt k.bits a ^^^ BitVec.ofInt k.bits b).toNat
section
variable (k:IntKind) (a b:Int)
theorem abin_add:abin .add (.int k a) (.int k b)=some (.int k (k.wrap (a+b))):=by simp [abin]
theorem abin_sub:abin .sub (.int k a) (.int k b)=some (.int k (k.wrap (a - b))):=by simp [abin]
theorem abin_mul:abin .mul (.int k a) (.int k b)=some (.int k (k.wrap (a*b))):=by simp [abin]
theorem abin_quo:abin .quo (.int k a) (.int k b)=if b=0 then none else some (.int k (k.wrap (a.tdiv b))):=by simp [abin]
theorem abin_rem:abin .rem (.int k a) (.int k b)=if b=0 then none else some (.int k (a.tmod b)):=by simp [abin]
theorem abin_eql:abin .eql (.int k a) (.int k b)=some (.bool (decide (a=b))):=by simp [abin];rfl
theorem abin_neq:abin .neq (.int k a) (.int k b)=some (.bool (!decide (a=b))):=by simp [abin];rfl
theorem abin_lss:abin .lss (.int k a) (.int k b)=some (.bool (decide (a<b))):=by simp [abin]
theorem abin_leq:abin .leq (.int k a) (.int k b)=some (.bool (decide (a≤b))):=by simp [abin]
theorem abin_gtr:abin .gtr (.int k a) (.int k b)=some (.bool (decide (a > b))):=by simp [abin]
theorem abin_geq:abin .geq (.int k a) (.int k b)=some (.bool (decide (a ≥ b))):=by simp [abin]
theorem abin_and:abin .and (.int k a) (.int k b)=some (.int k (andI k a b)):=by simp [abin,andI]
theorem abin_or:abin .or (.int k a) (.int k b)=some (.int k (orI k a b)):=by simp [abin,orI]
theorem abin_xor:abin .xor (.int k a) (.int k b)=some (.int k (xorI k a b)):=by simp [abin,xorI]
theorem abin_shl (k':IntKind):abin .shl (.int k a) (.int k' b)=if b<0 then none else some (.int k (k.wrap (a*2 ^ (min b.toNat k.bits)))):=by simp [abin]
theorem abin_shr (k':IntKind):abin .shr (.int k a) (.int k' b)=if b<0 then none else some (.int k (a.fdiv (2 ^ (min b.toNat k.bits)))):=by simp [abin]
theorem beq_dec (s t:List UInt8):(s == t)=decide (s=t):=by
 by_cases h:s=t
 ·subst h;simp
 ·have:(s == t)=false:=by simpa using h
  rw [this];simp [h]
theorem abin_seql (s t:List UInt8):abin .eql (.str s) (.str t)=some (.bool (decide (s=t))):=by simp [abin,beq_dec]
theorem abin_sneq (s t:List UInt8):abin .neq (.str s) (.str t)=some (.bool (!decide (s=t))):=by simp [abin,beq_dec]
theorem aun_not (x:Bool):aun .not (.bool x)=some (.bool (!x)):=by simp [aun]
theorem aun_neg:aun .neg (.int k a)=some (.int k (k.wrap (0 - a))):=by simp [aun]
end
theorem cellsOf_agg (cs:List AV):cellsOf (.agg cs)=some cs:=rfl
theorem cellsOf_int (k:IntKind) (n:Int):cellsOf (.int k n)=some [.int k n]:=rfl
theorem cellsOf_bool (b:Bool):cellsOf (.bool b)=some [.bool b]:=rfl
theorem cellsOf_str (s:List UInt8):cellsOf (.str s)=some [.str s]:=rfl
theorem cellsOf_is (r:List (List AV)) (c:Cap):cellsOf (.is r c)=some [.is r c]:=rfl
theorem cellsOf_ms (id off len s cap:Nat) (ex:Bool):cellsOf (.ms id off len s cap ex)=some [.ms id off len s cap ex]:=rfl
theorem cellsOf_fn (f:Nat) (b c:List AV):cellsOf (.fn f b c)=some [.fn f b c]:=rfl
theorem cellsOf_mm (i:Nat):cellsOf (.mm i)=some [.mm i]:=rfl
theorem cellsOf_nilm:cellsOf .nilm=some [.nilm]:=rfl
theorem cellsOf_nili:cellsOf .nili=some [.nili]:=rfl
theorem cellsOf_ifc (t:Nat) (v:AV):cellsOf (.ifc t v)=some [.ifc t v]:=rfl
theorem cellsOf_ip (r:List AV) (o:Nat):cellsOf (.ip r o)=some [.ip r o]:=rfl
theorem cellsOf_nilp:cellsOf .nilp=some [.nilp]:=rfl
theorem cellsOf_mp (i o:Nat):cellsOf (.mp i o)=some [.mp i o]:=rfl
theorem cget_one (sz off:Nat) (cs:List AV):cget false sz off cs=cs[off]?:=by simp [cget]
theorem cget_agg (sz off:Nat) (cs:List AV) (h:off+sz≤cs.length):cget true sz off cs=some (.agg ((cs.drop off).take sz)):=by simp [cget,h]
theorem ev_t (e:Env) (n:Nat):ev e (.t n)=e n:=rfl
theorem ev_c (e:Env) (v:AV):ev e (.c v)=v:=rfl
theorem fillp_nil (e:Env) (cs:List AV):fillp e cs []=some cs:=rfl
theorem fillp_cons (e:Env) (cs:List AV) (off size:Nat) (x:AO) (r:List (Nat × Nat × AO)) (xs:List AV) (hx:cellsOf (ev e x)=some xs) (hl:xs.length=size) (ho:off+size≤cs.length) :
  fillp e cs ((off,size,x) :: r)=fillp e (splice cs off xs) r:=by
 simp [fillp,hx,hl,ho]
theorem isSc_int (k:IntKind) (n:Int):isSc (.int k n)=true:=rfl
theorem isSc_bool (b:Bool):isSc (.bool b)=true:=rfl
theorem isSc_str (s:List UInt8):isSc (.str s)=true:=rfl
theorem isSc_is (r:List (List AV)) (c:Cap):isSc (.is r c)=true:=rfl
theorem isSc_mm (i:Nat):isSc (.mm i)=true:=rfl
theorem isSc_mp (i o:Nat):isSc (.mp i o)=true:=rfl
theorem isSc_ip (r:List AV) (o:Nat):isSc (.ip r o)=true:=rfl
theorem isSc_nilp:isSc .nilp=true:=rfl
theorem isSc_nilm:isSc .nilm=true:=rfl
theorem isSc_nili:isSc .nili=true:=rfl
theorem isSc_nilf:isSc .nilf=true:=rfl
theorem isSc_ifc (t:Nat) (v:AV):isSc (.ifc t v)=true:=rfl
theorem isSc_ms (id off len s cap:Nat) (ex:Bool):isSc (.ms id off len s cap ex)=true:=rfl
theorem isSc_fn (f:Nat) (b c:List AV):isSc (.fn f b c)=true:=rfl
theorem bthen_normal (e:Env) (h:Heap) (f:Env→Heap→Option (Ex × Env × Heap)):bthen (some (.normal,e,h)) f=f e h:=rfl
theorem bthen_ret (e:Env) (h:Heap) (f:Env→Heap→Option (Ex × Env × Heap)):bthen (some (.ret,e,h)) f=some (.ret,e,h):=rfl
theorem bthen_exit (i:Nat) (e:Env) (h:Heap) (f:Env→Heap→Option (Ex × Env × Heap)):bthen (some (.exit i,e,h)) f=some (.exit i,e,h):=rfl
theorem bcond_bool (b:Bool) (x y:Option (Ex × Env × Heap)):bcond (.bool b) x y=if b=true then x else y:=rfl
theorem bblock_normal (i:Nat) (e:Env) (h:Heap):bblock i (some (.normal,e,h))=some (.normal,e,h):=rfl
theorem bblock_ret (i:Nat) (e:Env) (h:Heap):bblock i (some (.ret,e,h))=some (.ret,e,h):=rfl
theorem bblock_exit (i j:Nat) (e:Env) (h:Heap):bblock i (some (.exit j,e,h))=if j=i then some (.normal,e,h) else some (.exit j,e,h):=rfl
theorem bkeep_some (keep:List Nat) (e:Env) (h:Heap):bkeep keep (some (e,h))=some (.normal,ofL (keep.map fun k=>(k,e k)),h):=rfl
theorem andF_some {α β:Type} (a:α) (b:β) {γ:Type} (k:α→β→Option γ):andF (some (a,b)) k=k a b:=rfl
theorem guardF_none (e:Env) (x:Option (AV × Heap)) (h:Heap):guardF e none x h=x:=rfl
theorem guardF_some (e:Env) (t:Nat) (want:Bool) (x:Option (AV × Heap)) (h:Heap):guardF e (some (t,want)) x h=guardV (e t) want x h:=rfl
theorem guardV_tup (want:Bool) (x:Option (AV × Heap)) (h:Heap):guardV (.tup []) want x h=some (.tup [],h):=rfl
theorem putF_some (nt:Nat) (e:Env) (d:Nat) (v:AV) {α:Type} (k:Env→Option α):putF nt e (some d) v k=if d<nt then k (upd e d v) else none:=rfl
theorem putF_none (nt:Nat) (e:Env) (v:AV) {α:Type} (k:Env→Option α):putF nt e none v k=k e:=rfl
theorem stepsF_nil (nt base:Nat) (step:Nat→AOp→Env→Heap→Option (AV × Heap)) (e:Env) (h:Heap):stepsF nt step base [] e h=some (e,h):=rfl
theorem stepsF_cons (nt base:Nat) (step:Nat→AOp→Env→Heap→Option (AV × Heap)) (d:Option Nat) (op:AOp) (g:Option (Nat × Bool)) (sl dp:Nat) (r:List AOper) (e:Env) (h:Heap) :
  stepsF nt step base (⟨d,op,g,sl,dp⟩ :: r) e h=andF (guardF e g (step (base+sl) op e h) h) fun v h'=>putF nt e d v fun e'=>stepsF nt step base r e' h':=rfl
theorem upd_apply (e:Env) (d:Nat) (v:AV) (n:Nat):upd e d v n=if n=d then v else e n:=rfl
theorem banswer_normal (res:List ARes) (e:Env) (h:Heap):banswer res (some (.normal,e,h))=match aresults e h res with|some v=>some (v,h)|none=>none:=rfl
theorem banswer_ret (res:List ARes) (e:Env) (h:Heap):banswer res (some (.ret,e,h))=match aresults e h res with|some v=>some (v,h)|none=>none:=rfl
theorem bown_normal (res:List ARes) (e:Env) (h:Heap):bown res (some (.normal,e,h))=match aresults e h res with|some v=>Areify h v|none=>none:=by
 unfold bown;rw [banswer_normal];cases aresults e h res<;>rfl
theorem bown_ret (res:List ARes) (e:Env) (h:Heap):bown res (some (.ret,e,h))=match aresults e h res with|some v=>Areify h v|none=>none:=by
 unfold bown;rw [banswer_ret];cases aresults e h res<;>rfl
theorem aeq_bool (a b:Bool):aeq .bool (.bool a) (.bool b)=some (a == b):=rfl
theorem aeq_agg (ks:List CK) (xs ys:List AV):aeq (.agg ks) (.agg xs) (.agg ys)=eqCells ks xs ys:=rfl
theorem eqCells_nil:eqCells [] [] []=some true:=rfl
theorem eqCells_int (k:IntKind) (ks:List CK) (a b:Int) (xs ys:List AV):eqCells (.int k :: ks) (.int k a :: xs) (.int k b :: ys)=(eqCells ks xs ys).map (decide (a=b) && ·):=by
 rw [eqCells,if_pos ⟨rfl,rfl⟩];rfl
theorem eqCells_bool (ks:List CK) (a b:Bool) (xs ys:List AV):eqCells (.bool :: ks) (.bool a :: xs) (.bool b :: ys)=(eqCells ks xs ys).map (a == b && ·):=rfl
theorem eqCells_str (ks:List CK) (a b:List UInt8) (xs ys:List AV):eqCells (.str :: ks) (.str a :: xs) (.str b :: ys)=(eqCells ks xs ys).map (decide (a=b) && ·):=by
 rw [eqCells,beq_dec]
end Go.AM
