/- The abstract machine: values, memory, code, and what a call comes to. No program in sight. -/
import Derived.Orders
import Derived.KernelRfl
import Derived.Lib.Bytealg
namespace Go.AM
inductive Cap where
 | no
 | nn
 | nil
 | full
 | tok (id sz:Nat)
inductive AV where
 | undef
 | int (k:IntKind) (n:Int)
 | bool (b:Bool)
 | str (s:List UInt8)
 | nilp
 | ip (row:List AV) (off:Nat)
 | mp (id off:Nat)
 | is (rows:List (List AV)) (cap:Cap)
 | ms (id off len sz cap:Nat) (ex:Bool)
 | fn (f:Nat) (first caps:List AV)
 | nilf
 | nilm
 | mm (id:Nat)
 | nili
 | ifc (t:Nat) (v:AV)
 | agg (cs:List AV)
 | tup (vs:List AV)
inductive Blk where
 | free
 | dead
 | cells (cs:List AV)
 | map (es:List (AV × AV × Nat)) (clock:Nat)
 | tok
abbrev Heap:=List Blk
abbrev Env:=Nat→AV
inductive AO where
 | t (n:Nat)
 | c (v:AV)
inductive CK where
 | int (k:IntKind)|bool|str
inductive ExtK where
 | idxByte|count|same
inductive EqK where
 | bool|ptr|slice|map|func|iface|agg (ks:List CK)
inductive AOp where
 | move (x:AO)
 | pick (c a b:AO)
 | alloc (val:Bool) (zero:List AV)
 | box (val:Bool) (x:AO)
 | build (zero:List AV) (parts:List (Nat × Nat × AO))
 | buildSlice (val:Bool) (sz len:Nat) (zero:List AV) (parts:List (Nat × Nat × AO))
 | load (agg:Bool) (size:Nat) (p:AO)
 | store (size:Nat) (p x:AO)
 | nilCheck (x:AO)
 | bin (op:BinOp) (x y:AO)
 | eq (neg:Bool) (k:EqK) (x y:AO)
 | un (op:UnOp) (x:AO)
 | conv (k:IntKind) (x:AO)
 | strId (x:AO)
 | toStr (x:AO)
 | toBytes (val:Bool) (x:AO)
 | fn (f:Nat) (first caps:List AO)
 | mkSlice (val:Bool) (sz bytes:Nat) (zero:List AV) (len cap:AO)
 | slice (sz:Nat) (x:AO) (lo hi mx:Option AO)
 | strSlice (x:AO) (lo hi:Option AO)
 | fieldAddr (off:Nat) (p:AO)
 | field (agg:Bool) (off size:Nat) (x:AO)
 | idxAddr (sz:Nat) (x i:AO)
 | idxArr (len sz:Nat) (p i:AO)
 | index (agg:Bool) (len sz:Nat) (x i:AO)
 | strIndex (x i:AO)
 | extract (x:AO) (i:Nat)
 | len (k:Nat) (x:AO)
 | append (val:Bool) (sz bytes:Nat) (x y:AO)
 | copy (sz:Nat) (x y:AO)
 | clear (sz:Nat) (zero:List AV) (x:AO)
 | min (x y:AO)
 | max (x y:AO)
 | mkMap
 | lookup (kg:Bool) (ks:List CK) (zero:AV) (commaOk:Bool) (m k:AO)
 | mapUpdate (kg:Bool) (ks:List CK) (m k v:AO)
 | mkIface (t:Nat) (x:AO)
 | ext (k:ExtK) (args:List AO)
 | stuck
 | call (f:AO) (args:List AO)
structure AOper where
 dst:Option Nat
 op:AOp
 guard:Option (Nat × Bool)
 slot:Nat
 dep:Nat
inductive ACode where
 | skip
 | region (draw:Bool) (ops:List AOper) (keep:List Nat) (slots:Nat)
 | seq (a b:ACode)
 | cond (c:AO) (a b:ACode)
 | block (id:Nat) (body:ACode)
 | loop (body:ACode)
 | exit (id:Nat)
 | ret
 | stuck
inductive ARes where
 | tmp (t:Nat)
 | cell (a:Nat) (agg:Bool) (size:Nat)
structure AFn where
 np:Nat
 nt:Nat
 res:List ARes
 body:ACode
 mode:Nat
 ext:Option (List AV→Option AV)
def ev (env:Env):AO→AV
 | .t n=>env n
 | .c v=>v
def upd (env:Env) (d:Nat) (v:AV):Env:=fun t=>if t=d then v else env t
def cellsOf:AV→Option (List AV)
 | .undef=>none
 | .tup _=>none
 | .agg cs=>some cs
 | v=>some [v]
def isSc:AV→Bool
 | .undef | .tup _ | .agg _=>false
 | _=>true
def cget (agg:Bool) (size off:Nat) (cs:List AV):Option AV :=
 if agg then (if off+size≤cs.length then some (.agg ((cs.drop off).take size)) else none) else cs[off]?
def splice (cs:List AV) (off:Nat) (xs:List AV):List AV:=cs.take off ++ xs ++ cs.drop (off+xs.length)
def fillp (env:Env):List AV→List (Nat × Nat × AO)→Option (List AV)
 | cs,[]=>some cs
 | cs,(off,size,x) :: rest =>
  match cellsOf (ev env x) with
  | none=>none
  | some xs=>if xs.length=size∧off+size≤cs.length then fillp env (splice cs off xs) rest else none
def bytesOf:List AV→Option (List UInt8)
 | []=>some []
 | .int .u8 n :: r=>(bytesOf r).map (UInt8.ofNat n.toNat :: ·)
 | _ :: _=>none
def ofBytes (s:List UInt8):List AV:=s.map fun b => .int .u8 b.toNat
def repeatCells (n:Nat) (zero:List AV):List AV:=(List.replicate n zero).flatten
def imm:AV→Bool
 | .mp _ _=>false
 | .ms _ _ _ _ _ _=>false
 | .mm _=>false
 | .fn _ first caps=>immL first && immL caps
 | .ifc _ v=>imm v
 | .agg cs=>immL cs
 | .tup cs=>immL cs
 | _=>true
where immL:List AV→Bool
 | []=>true
 | v :: r=>imm v && immL r
def strip:AV→AV
 | .is rows _ => .is rows .no
 | .fn f first caps => .fn f (stripL first) (stripL caps)
 | .ifc t v => .ifc t (strip v)
 | .agg cs => .agg (stripL cs)
 | .tup cs => .tup (stripL cs)
 | v=>v
where stripL:List AV→List AV
 | []=>[]
 | v :: r=>strip v :: stripL r
def chunk (sz:Nat):Nat→List AV→List (List AV)
 | 0,_=>[]
 | n+1,cs=>cs.take sz :: chunk sz n (cs.drop sz)
def Cap.tight:Cap→Bool
 | .nil | .full=>true
 | _=>false
def rowsz (sz:Nat) (rows:List (List AV)):Bool:=rows.all fun r=>r.length == sz
inductive HC where
 | fail
 | done (v:AV)
 | rd (id:Nat) (k:Blk→HC)
 | wr (id:Nat) (b:Blk) (k:HC)
 | new (b:Blk) (k:HC)
def Blk.isFree:Blk→Bool
 | .free=>true
 | _=>false
def HC.run (slot:Nat):HC→Heap→Option (AV × Heap)
 | .fail,_=>none
 | .done v,h=>some (v,h)
 | .rd id k,h =>
  match h[id]? with
  | some b=>if b.isFree then none else (k b).run slot h
  | none=>none
 | .wr id b k,h =>
  match h[id]? with
  | some b'=>if b'.isFree then none else k.run slot (h.set id b)
  | none=>none
 | .new b k,h =>
  match h[slot]? with
  | some b'=>if b'.isFree then k.run slot (h.set slot b) else none
  | none=>none
def HC.rds (slot:Nat):HC→Heap→List Nat
 | .rd id k,h =>
  match h[id]? with
  | some b=>id :: (k b).rds slot h
  | none=>[]
 | .wr id b k,h=>k.rds slot (h.set id b)
 | .new b k,h=>k.rds slot (h.set slot b)
 | _,_=>[]
def HC.wrs (slot:Nat):HC→Heap→List Nat
 | .rd id k,h =>
  match h[id]? with
  | some b=>(k b).wrs slot h
  | none=>[]
 | .wr id b k,h=>id :: k.wrs slot (h.set id b)
 | .new b k,h=>slot :: k.wrs slot (h.set slot b)
 | _,_=>[]
def HC.ofOpt:Option AV→HC
 | some v => .done v
 | none => .fail
def scells:AV→(List AV→HC)→HC
 | .is rows _,k=>k rows.flatten
 | .str s,k=>k (ofBytes s)
 | .ms id off len sz _ _,k => .rd id fun
  | .cells cs=>if off+len*sz≤cs.length then k ((cs.drop off).take (len*sz)) else .fail
  | _ => .fail
 | _,_ => .fail
def slen:AV→Option Nat
 | .is rows _=>some rows.length
 | .str s=>some s.length
 | .ms _ _ len _ _ _=>some len
 | _=>none
def ssz (sz:Nat):AV→Bool
 | .is rows _=>rowsz sz rows
 | .ms _ _ _ s _ _=>s == sz
 | .str _=>sz == 1
 | _=>false
def roomy (n bytes:Nat):Bool:=n*bytes≤140737488355328
def strIdV:AV→Option AV
 | .str s=>some (.str s)
 | .int _ n=>if 0≤n∧n<128 then some (.str [UInt8.ofNat n.toNat]) else none
 | _=>none
def abin (op:BinOp) (x y:AV):Option AV :=
 match x,y with
 | .int k a,.int k' b =>
  match op with
  | .shl=>if b<0 then none else some (.int k (k.wrap (a*2 ^ (min b.toNat k.bits))))
  | .shr=>if b<0 then none else some (.int k (a.fdiv (2 ^ (min b.toNat k.bits))))
  | _ =>
   if k≠k' then none else
   match op with
   | .add=>some (.int k (k.wrap (a+b)))
   | .sub=>some (.int k (k.wrap (a - b)))
   | .mul=>some (.int k (k.wrap (a*b)))
   | .quo=>if b=0 then none else some (.int k (k.wrap (a.tdiv b)))
   | .rem=>if b=0 then none else some (.int k (a.tmod b))
   | .and=>some (.int k (k.wrap (BitVec.ofInt k.bits a &&& BitVec.ofInt k.bits b).toNat))
   | .or=>some (.int k (k.wrap (BitVec.ofInt k.bits a ||| BitVec.ofInt k.bits b).toNat))
   | .xor=>some (.int k (k.wrap (BitVec.ofInt k.bits a ^^^ BitVec.ofInt k.bits b).toNat))
   | .andNot=>some (.int k (k.wrap (BitVec.ofInt k.bits a &&& ~~~ BitVec.ofInt k.bits b).toNat))
   | .eql=>some (.bool (a == b))
   | .neq=>some (.bool (a != b))
   | .lss=>some (.bool (decide (a<b)))
   | .leq=>some (.bool (decide (a≤b)))
   | .gtr=>some (.bool (decide (a > b)))
   | .geq=>some (.bool (decide (a ≥ b)))
   | _=>none
 | .str a,.str b =>
  match op with
  | .add=>if a.length+b.length≤9223372036854775807 then some (.str (a ++ b)) else none
  | .eql=>some (.bool (a == b))
  | .neq=>some (.bool (!(a == b)))
  | .lss=>some (.bool (Op.bytesLess a b))
  | .leq=>some (.bool (Op.bytesLess a b || a == b))
  | .gtr=>some (.bool (!(Op.bytesLess a b || a == b)))
  | .geq=>some (.bool (!(Op.bytesLess a b)))
  | _=>none
 | _,_=>none
def eqCells:List CK→List AV→List AV→Option Bool
 | [],[],[]=>some true
 | .int k :: ks,.int k1 a :: xs,.int k2 b :: ys=>if k1=k∧k2=k then (eqCells ks xs ys).map (a == b && ·) else none
 | .bool :: ks,.bool a :: xs,.bool b :: ys=>(eqCells ks xs ys).map (a == b && ·)
 | .str :: ks,.str a :: xs,.str b :: ys=>(eqCells ks xs ys).map (a == b && ·)
 | _,_,_=>none
def isNilP:AV→Option Bool
 | .nilp=>some true
 | .ip _ _=>some false
 | .mp _ _=>some false
 | _=>none
def isNilS:AV→Option Bool
 | .is (_ :: _) _=>some false
 | .is [] .nil=>some true
 | .is [] .nn=>some false
 | .ms _ _ _ _ _ _=>some false
 | _=>none
def isNilI:AV→Option Bool
 | .nili=>some true
 | .ifc _ _=>some false
 | _=>none
def isNilM:AV→Option Bool
 | .nilm=>some true
 | .mm _=>some false
 | _=>none
def isNilF:AV→Option Bool
 | .nilf=>some true
 | .fn _ _ _=>some false
 | _=>none
def eqNil (f:AV→Option Bool) (x y:AV):Option Bool :=
 match f x,f y with
 | some true,some b=>some b
 | some b,some true=>some b
 | _,_=>none
def aeq (k:EqK) (x y:AV):Option Bool :=
 match k with
 | .bool=>match x,y with
  | .bool a,.bool b=>some (a == b)
  | _,_=>none
 | .ptr=>eqNil isNilP x y
 | .slice=>eqNil isNilS x y
 | .map=>eqNil isNilM x y
 | .func=>eqNil isNilF x y
 | .iface=>eqNil isNilI x y
 | .agg ks=>match x,y with
  | .agg xs,.agg ys=>eqCells ks xs ys
  | _,_=>none
def aun (op:UnOp) (x:AV):Option AV :=
 match op,x with
 | .neg,.int k n=>some (.int k (k.wrap (0 - n)))
 | .xor,.int k n=>some (.int k (k.wrap (BitVec.ofInt k.bits (if k.signed then -1 else k.max) ^^^ BitVec.ofInt k.bits n).toNat))
 | .not,.bool b=>some (.bool (!b))
 | _,_=>none
def abound (y:Nat):AV→Option Nat
 | .int _ i=>if 0≤i∧i≤y then some i.toNat else none
 | _=>none
def obound (env:Env) (y dflt:Nat):Option AO→Option Nat
 | some x=>abound y (ev env x)
 | none=>some dflt
def aslice (env:Env) (sz:Nat) (x:AV) (lo hi mx:Option AO):Option AV :=
 match x with
 | .is rows cap =>
  if !rowsz sz rows then none else
  match obound env rows.length rows.length mx with
  | none=>none
  | some m=>match obound env m rows.length hi with
   | none=>none
   | some h=>match obound env h 0 lo with
    | none=>none
    | some l=>some (.is ((rows.take h).drop l) (if mx.isSome then (if m=h then .full else .no) else if h=rows.length then cap else .no))
 | .ms id off len s cap ex =>
  if s≠sz then none else
  match obound env cap cap mx with
  | none=>none
  | some m=>match obound env m len hi with
   | none=>none
   | some h=>match obound env h 0 lo with
    | none=>none
    | some l=>some (.ms id (off+l*s) (h - l) s (m - l) (ex || mx.isSome))
 | _=>none
def keyCells (kg:Bool) (v:AV):Option (List AV) :=
 match v with
 | .agg cs=>if kg then some cs else none
 | v=>if !kg && isSc v then some [v] else none
def keyOK (ks:List CK) (key:List AV):Bool:=(eqCells ks key key).isSome
def findA (kg:Bool) (ks:List CK) (key:List AV):List (AV × AV × Nat)→Nat→Option (Option (Nat × AV))
 | [],_=>some none
 | (k,v,_) :: r,i=>match keyCells kg k with
  | none=>none
  | some k'=>match eqCells ks key k' with
   | some true=>some (some (i,v))
   | some false=>findA kg ks key r (i+1)
   | none=>none
def found (zero:AV) (commaOk:Bool):Option (Nat × AV)→AV
 | some (_,v)=>if commaOk then .tup [v,.bool true] else v
 | none=>if commaOk then .tup [zero,.bool false] else zero
def aext (k:ExtK) (args:List AV):Option AV :=
 match k,args with
 | .idxByte,[.str s,.int .u8 c]=>some (.int .i64 (Go.Lib.indexByte s c.toNat.toUInt8))
 | .count,[.str s,.int .u8 c]=>some (.int .i64 (Go.Lib.countByte s c.toNat.toUInt8))
 | .same,[x]=>some x
 | _,_=>none
def aop (slot:Nat) (env:Env):AOp→HC
 | .move x => .done (ev env x)
 | .pick c a b=>match ev env c with
  | .bool t => .done (if t then ev env a else ev env b)
  | _ => .fail
 | .alloc v zero=>if v then .done (.ip (strip.stripL zero) 0) else .new (.cells zero) (.done (.mp slot 0))
 | .box v x=>match cellsOf (ev env x) with
  | some cs=>if v then (if imm.immL cs then .done (.ip (strip.stripL cs) 0) else .fail) else .new (.cells cs) (.done (.mp slot 0))
  | none => .fail
 | .build zero parts=>match fillp env zero parts with
  | some cs => .done (.agg cs)
  | none => .fail
 | .buildSlice v sz len zero parts=>match fillp env zero parts with
  | some cs=>if v then (if imm.immL cs then .done (.is (chunk sz len (strip.stripL cs)) .full) else .fail) else .new (.cells cs) (.done (.ms slot 0 len sz len true))
  | none => .fail
 | .load agg size p=>match ev env p with
  | .ip row off => .ofOpt (cget agg size off row)
  | .mp id off => .rd id fun
   | .cells cs => .ofOpt (cget agg size off cs)
   | _ => .fail
  | _ => .fail
 | .store size p x=>match ev env p,cellsOf (ev env x) with
  | .mp id off,some xs =>
   if xs.length=size∧xs.all isSc then .rd id fun
    | .cells cs=>if off+size≤cs.length then .wr id (.cells (splice cs off xs)) (.done .undef) else .fail
    | _ => .fail
   else .fail
  | _,_ => .fail
 | .nilCheck x=>match ev env x with
  | .mp id off => .done (.mp id off)
  | .ip row off => .done (.ip row off)
  | _ => .fail
 | .bin op x y => .ofOpt (abin op (ev env x) (ev env y))
 | .eq neg k x y => .ofOpt ((aeq k (ev env x) (ev env y)).map fun b => .bool (if neg then !b else b))
 | .un op x => .ofOpt (aun op (ev env x))
 | .conv k x=>match ev env x with
  | .int _ n => .done (.int k (k.wrap n))
  | _ => .fail
 | .strId x => .ofOpt (strIdV (ev env x))
 | .toStr x=>match ev env x with
  | .str _ => .fail
  | v=>if ssz 1 v then scells v fun cs => .ofOpt ((bytesOf cs).map .str) else .fail
 | .toBytes v x=>match ev env x with
  | .str s=>if v then .new .tok (.done (.is (chunk 1 s.length (ofBytes s)) (.tok slot 1))) else .new (.cells (ofBytes s)) (.done (.ms slot 0 s.length 1 s.length false))
  | _ => .fail
 | .fn f first caps => .done (.fn f (first.map (ev env)) (caps.map (ev env)))
 | .mkSlice v sz bytes zero len cap=>match ev env len,ev env cap with
  | .int .i64 l,.int .i64 c =>
   if 0≤l∧l≤c∧c≤9223372036854775807∧roomy c.toNat bytes then
    if v then .new .tok (.done (.is (List.replicate l.toNat (strip.stripL zero)) (.tok slot sz)))
    else .new (.cells (repeatCells c.toNat zero)) (.done (.ms slot 0 l.toNat sz c.toNat true))
   else .fail
  | _,_ => .fail
 | .slice sz x lo hi mx => .ofOpt (aslice env sz (ev env x) lo hi mx)
 | .strSlice x lo hi=>match ev env x with
  | .str s=>match obound env s.length s.length hi with
   | none => .fail
   | some h=>match obound env h 0 lo with
    | none => .fail
    | some l => .done (.str ((s.take h).drop l))
  | _ => .fail
 | .fieldAddr off p=>match ev env p with
  | .mp id o => .done (.mp id (o+off))
  | .ip row o => .done (.ip row (o+off))
  | _ => .fail
 | .field agg off size x=>match ev env x with
  | .agg cs => .ofOpt (cget agg size off cs)
  | _ => .fail
 | .idxAddr sz x i=>match ev env x,ev env i with
  | .is rows _,.int _ n =>
   if 0≤n then match rows[n.toNat]? with
    | some row=>if row.length=sz then .done (.ip row 0) else .fail
    | none => .fail
   else .fail
  | .ms id off len s _ _,.int _ n=>if s=sz∧0≤n∧n<len then .done (.mp id (off+n.toNat*sz)) else .fail
  | _,_ => .fail
 | .idxArr len sz p i=>match ev env p,ev env i with
  | .mp id o,.int _ n=>if 0≤n∧n<len then .done (.mp id (o+n.toNat*sz)) else .fail
  | .ip row o,.int _ n=>if 0≤n∧n<len then .done (.ip row (o+n.toNat*sz)) else .fail
  | _,_ => .fail
 | .index agg len sz x i=>match ev env x,ev env i with
  | .agg cs,.int _ n=>if 0≤n∧n<len then .ofOpt (cget agg sz (n.toNat*sz) cs) else .fail
  | _,_ => .fail
 | .strIndex x i=>match ev env x,ev env i with
  | .str s,.int _ n=>if 0≤n then match s[n.toNat]? with
    | some b => .done (.int .u8 b.toNat)
    | none => .fail
   else .fail
  | _,_ => .fail
 | .extract x i=>match ev env x with
  | .tup vs => .ofOpt vs[i]?
  | _ => .fail
 | .len k x=>match k,ev env x with
  | 0,.str s => .done (.int .i64 s.length)
  | 1,.is rows _ => .done (.int .i64 rows.length)
  | 1,.ms _ _ len _ _ _ => .done (.int .i64 len)
  | 2,.nilm => .done (.int .i64 0)
  | 2,.mm id => .rd id fun
   | .map es _ => .done (.int .i64 es.length)
   | _ => .fail
  | _,_ => .fail
 | .append v sz bytes x y =>
  match slen (ev env y) with
  | none => .fail
  | some n =>
   if !ssz sz (ev env y) then .fail else
   match ev env x with
   | .is rows cap=>if n=0 then .done (.is rows cap) else
    if !roomy (rows.length+n) bytes then .fail else
    scells (ev env y) fun ys =>
     if v then
      if !(imm.immL ys && ys.all isSc) then .fail else
      match cap with
      | .tok id s=>if s≠sz then .fail else .rd id fun
       | .tok => .wr id .dead (.new .tok (.done (.is (rows ++ chunk sz n (strip.stripL ys)) (.tok slot sz))))
       | _ => .fail
      | cap=>if !(cap.tight && rowsz sz rows) then .fail else .new .tok (.done (.is (rows ++ chunk sz n (strip.stripL ys)) (.tok slot sz)))
     else if !(cap.tight && rowsz sz rows) then .fail else .new (.cells (rows.flatten ++ ys)) (.done (.ms slot 0 (rows.length+n) sz (rows.length+n) false))
   | .ms id off len s cap ex=>if n=0 then .done (.ms id off len s cap ex) else
    if !(s == sz && roomy (len+n) bytes) then .fail else
    scells (ev env y) fun ys=>if !(ys.all isSc) then .fail else .rd id fun
     | .cells cs =>
      if !(decide (off+len*s≤cs.length)) then .fail else
      if len+n≤cap then
       if off+len*s+ys.length≤cs.length then .wr id (.cells (splice cs (off+len*s) ys)) (.done (.ms id off (len+n) s cap ex)) else .fail
      else if ex then .new (.cells ((cs.drop off).take (len*s) ++ ys)) (.done (.ms slot 0 (len+n) s (len+n) false))
      else .wr id .dead (.new (.cells ((cs.drop off).take (len*s) ++ ys)) (.done (.ms slot 0 (len+n) s (len+n) false)))
     | _ => .fail
   | _ => .fail
 | .copy sz x y =>
  match ev env x,slen (ev env y) with
  | .is [] _,some _ => .done (.int .i64 0)
  | .ms id off len s _ _,some n =>
   if !(s == sz && ssz sz (ev env y)) then .fail else
   if min n len=0 then .done (.int .i64 0) else
   scells (ev env y) fun ys=>if !(ys.all isSc) then .fail else .rd id fun
    | .cells cs =>
     if off+(min n len)*s≤cs.length then .wr id (.cells (splice cs off (ys.take ((min n len)*s)))) (.done (.int .i64 (min n len:Nat))) else .fail
    | _ => .fail
  | _,_ => .fail
 | .clear sz zero x=>match ev env x with
  | .is [] _ => .done (.tup [])
  | .ms id off len s _ _ =>
   if len=0 then .done (.tup []) else
   if s=sz∧zero.length=sz∧zero.all isSc then .rd id fun
    | .cells cs=>if off+len*s≤cs.length then .wr id (.cells (splice cs off (repeatCells len zero))) (.done (.tup [])) else .fail
    | _ => .fail
   else .fail
  | _ => .fail
 | .min x y=>match ev env x,ev env y with
  | .int k a,.int _ b => .done (.int k (if b<a then b else a))
  | _,_ => .fail
 | .max x y=>match ev env x,ev env y with
  | .int k a,.int _ b => .done (.int k (if a<b then b else a))
  | _,_ => .fail
 | .mkMap => .new (.map [] 0) (.done (.mm slot))
 | .lookup kg ks zero ok m k=>match keyCells kg (ev env k) with
  | none => .fail
  | some key=>if !keyOK ks key then .fail else match ev env m with
   | .nilm => .done (found zero ok none)
   | .mm id => .rd id fun
    | .map es _ => .ofOpt ((findA kg ks key es 0).map (found zero ok))
    | _ => .fail
   | _ => .fail
 | .mapUpdate kg ks m k x=>match keyCells kg (ev env k) with
  | none => .fail
  | some key=>if !keyOK ks key then .fail else match ev env m with
   | .mm id => .rd id fun
    | .map es ck=>match findA kg ks key es 0 with
     | some (some (i,_)) => .wr id (.map (es.modify i fun e=>(ev env k,ev env x,e.2.2)) ck) (.done .undef)
     | some none => .wr id (.map (es ++ [(ev env k,ev env x,ck)]) (ck+1)) (.done .undef)
     | none => .fail
    | _ => .fail
   | _ => .fail
 | .mkIface t x => .done (.ifc t (ev env x))
 | .ext k args => .ofOpt (aext k (args.map (ev env)))
 | .stuck => .fail
 | .call _ _ => .fail
inductive Rec where
 | no
 | hc (rd wr:List Nat)
 | kc (n:Nat) (wr:List Nat)
abbrev CallF:=Nat→List AV→Heap→Option (AV × Heap × List Nat)
abbrev PureF:=Nat→List AV→Bool
def put (nt:Nat) (env:Env) (dst:Option Nat) (v:AV):Option Env :=
 match dst with
 | none=>some env
 | some d=>if d<nt then some (upd env d v) else none
def wanted (env:Env):Option (Nat × Bool)→Option Bool
 | none=>some true
 | some (t,want)=>match env t with
  | .bool b=>some (b == want)
  | .tup []=>some false
  | _=>none
def stepRun (cf:CallF) (pu:PureF) (base:Nat) (o:AOper) (env:Env) (h:Heap):Option (AV × Heap × Rec) :=
 match o.op with
 | .call f args=>match ev env f with
  | .fn g first caps=>match cf g (first ++ args.map (ev env) ++ caps) h with
   | some (v,h',w)=>some (v,h',if pu g (first ++ args.map (ev env) ++ caps) then .hc [] [] else .kc h.length w)
   | none=>none
  | _=>none
 | op=>match (aop (base+o.slot) env op).run (base+o.slot) h with
  | some (v,h')=>some (v,h',.hc ((aop (base+o.slot) env op).rds (base+o.slot) h) ((aop (base+o.slot) env op).wrs (base+o.slot) h))
  | none=>none
def astep (cf:CallF) (pu:PureF) (nt base:Nat) (o:AOper) (env:Env) (h:Heap):Option (Env × Heap × Rec) :=
 match wanted env o.guard with
 | none=>none
 | some false=>(put nt env o.dst (.tup [])).map fun e=>(e,h,.no)
 | some true=>match stepRun cf pu base o env h with
  | none=>none
  | some (v,h',r)=>(put nt env o.dst v).map fun e=>(e,h',r)
def asteps (cf:CallF) (pu:PureF) (nt base:Nat):List AOper→Env→Heap→Option (Env × Heap × List Rec)
 | [],env,h=>some (env,h,[])
 | o :: rest,env,h=>match astep cf pu nt base o env h with
  | none=>none
  | some (e,h',r)=>(asteps cf pu nt base rest e h').map fun x=>(x.1,x.2.1,r :: x.2.2)
def AO.tmps:AO→List Nat
 | .t n=>[n]
 | .c _=>[]
def oTmps:Option AO→List Nat
 | some x=>x.tmps
 | none=>[]
def pTmps (l:List (Nat × Nat × AO)):List Nat:=l.flatMap fun p=>p.2.2.tmps
def AOp.tmps:AOp→List Nat
 | .move x | .box _ x | .load _ _ x | .nilCheck x | .un _ x | .conv _ x | .strId x | .toStr x | .toBytes _ x | .fieldAddr _ x | .field _ _ _ x | .extract x _ | .len _ x | .clear _ _ x | .mkIface _ x=>x.tmps
 | .pick c a b | .mapUpdate _ _ c a b=>c.tmps ++ a.tmps ++ b.tmps
 | .alloc _ _ | .mkMap | .stuck=>[]
 | .build _ ps | .buildSlice _ _ _ _ ps=>pTmps ps
 | .store _ x y | .bin _ x y | .eq _ _ x y | .mkSlice _ _ _ _ x y | .idxAddr _ x y | .idxArr _ _ x y | .index _ _ _ x y | .strIndex x y | .append _ _ _ x y | .copy _ x y | .min x y | .max x y | .lookup _ _ _ _ x y=>x.tmps ++ y.tmps
 | .fn _ first caps=>first.flatMap AO.tmps ++ caps.flatMap AO.tmps
 | .slice _ x lo hi mx=>x.tmps ++ oTmps lo ++ oTmps hi ++ oTmps mx
 | .strSlice x lo hi=>x.tmps ++ oTmps lo ++ oTmps hi
 | .ext _ args=>args.flatMap AO.tmps
 | .call f args=>f.tmps ++ args.flatMap AO.tmps
def AOper.looks (o:AOper):List Nat:=o.op.tmps ++ (match o.guard with|some (t,_)=>[t]|none=>[])
def disj (a b:List Nat):Bool:=a.all fun x=>!b.contains x
def Rec.indep:Rec→Rec→Bool
 | .no,_=>true
 | _,.no=>true
 | .hc r w,.hc r' w'=>disj w (r' ++ w') && disj w' r
 | .hc r w,.kc n w'=>w.isEmpty && disj r w' && r.all (·<n)
 | .kc n w',.hc r w=>w.isEmpty && disj r w' && r.all (·<n)
 | .kc _ _,.kc _ _=>false
def apart (x y:AOper):Bool :=
 (match x.dst with
 | some d=>!y.looks.contains d && y.dst != some d
 | none=>true) &&
 (match y.dst with
 | some d=>!x.looks.contains d
 | none=>true)
def fresh (p:AOper) (r s:Rec):Bool :=
 match p.op,r,s with
 | .alloc false _,.kc n w,.hc [] [k]=>decide (k<n) && !w.contains k
 | _,_,_=>false
def freeOf (i:Nat) (o:AOper) (r:Rec):List (AOper × Rec)→Bool
 | []=>true
 | (p,s) :: rest=>(p.dep.testBit i || ((r.indep s || fresh p r s) && apart o p)) && freeOf i o r rest
def drawOK (i:Nat):List (AOper × Rec)→Bool
 | []=>true
 | (o,r) :: rest=>freeOf i o r rest && drawOK (i+1) rest
def prune (keep:List Nat) (env:Env):Env:=fun t=>if keep.contains t then env t else .undef
def Rec.log:Rec→List Nat
 | .no=>[]
 | .hc _ w=>w
 | .kc _ w=>w
def addLog:List Nat→List Nat→List Nat
 | [],l=>l
 | x :: r,l=>addLog r (if l.contains x then l else x :: l)
def logOf:List Rec→List Nat→List Nat
 | [],l=>l
 | r :: rs,l=>logOf rs (addLog r.log l)
structure St where
 env:Env
 heap:Heap
 log:List Nat
def aregion (cf:CallF) (pu:PureF) (nt:Nat) (draw:Bool) (ops:List AOper) (keep:List Nat) (slots:Nat) (s:St):Option St :=
 match asteps cf pu nt s.heap.length ops s.env (s.heap ++ List.replicate slots .free) with
 | none=>none
 | some (e,h,rs) =>
  if !draw || drawOK 0 (ops.zip rs) then some ⟨prune keep e,h,logOf rs s.log⟩ else none
inductive Ex where
 | normal
 | exit (id:Nat)
 | ret
def aloop (f:St→Option (Ex × St)):Nat→St→Option (Ex × St)
 | 0,_=>none
 | n+1,s=>match f s with
  | some (.normal,s')=>aloop f n s'
  | r=>r
def arun (cf:CallF) (pu:PureF) (nt fuel:Nat):ACode→St→Option (Ex × St)
 | .skip,s=>some (.normal,s)
 | .region d ops keep slots,s=>(aregion cf pu nt d ops keep slots s).map (.normal,·)
 | .seq a b,s=>match arun cf pu nt fuel a s with
  | some (.normal,s')=>arun cf pu nt fuel b s'
  | r=>r
 | .cond c a b,s=>match ev s.env c with
  | .bool true=>arun cf pu nt fuel a s
  | .bool false=>arun cf pu nt fuel b s
  | _=>none
 | .block id body,s=>match arun cf pu nt fuel body s with
  | some (.exit i,s')=>if i=id then some (.normal,s') else some (.exit i,s')
  | r=>r
 | .loop body,s=>aloop (arun cf pu nt fuel body) fuel s
 | .exit id,s=>some (.exit id,s)
 | .ret,s=>some (.ret,s)
 | .stuck,_=>none
def reify (h:Heap):Nat→AV→Option AV
 | 0,_=>none
 | n+1,v=>match v with
  | .ms id off len sz cap ex=>match h[id]? with
   | some (.cells cs) =>
    if off+len*sz≤cs.length then
     (((cs.drop off).take (len*sz)).mapM (reify h n)).map fun l => .is (chunk sz len l) .no
    else none
   | _=>none
  | .mp id off=>match h[id]? with
   | some (.cells cs)=>if off≤cs.length then (cs.mapM (reify h n)).map fun l => .ip l off else none
   | _=>none
  | .mm _=>none
  | .fn f first caps=>match first.mapM (reify h n),caps.mapM (reify h n) with
   | some l,some m=>some (.fn f l m)
   | _,_=>none
  | .is rows _=>some (.is rows .no)
  | .ifc t v=>(reify h n v).map (.ifc t ·)
  | .agg cs=>(cs.mapM (reify h n)).map .agg
  | .tup cs=>(cs.mapM (reify h n)).map .tup
  | v=>some v
def ares (env:Env) (h:Heap):ARes→Option AV
 | .tmp t=>some (env t)
 | .cell a agg size=>match env a with
  | .mp id off=>match h[id]? with
   | some (.cells cs)=>cget agg size off cs
   | _=>none
  | .ip row off=>cget agg size off row
  | _=>none
def aresults (env:Env) (h:Heap) (l:List ARes):Option AV :=
 match l.mapM (ares env h) with
 | none=>none
 | some [v]=>some v
 | some vs=>some (.tup vs)
abbrev Tab:=Nat→Option AFn
def isPure (A:Tab):PureF:=fun g args=>match A g with
 | some f=>f.mode != 0 && imm.immL args
 | none=>false
def abody (A:Tab) (cf:CallF) (fuel:Nat) (f:AFn) (args:List AV) (h:Heap):Option (AV × Heap × List Nat) :=
 match arun cf (isPure A) f.nt fuel f.body ⟨fun t=>args.getD t .undef,h,[]⟩ with
 | some (.exit _,_)=>none
 | some (_,s)=>(aresults s.env s.heap f.res).map fun v=>(v,s.heap,s.log)
 | none=>none
def aown (A:Tab) (cf:CallF) (k:Nat) (f:AFn) (args:List AV):Option AV :=
 match f.ext with
 | some F=>F args
 | none=>match abody A cf k f args [] with
  | some (v,h',_)=>reify h' k v
  | none=>none
def noElems:List AV→Bool
 | .is [] _ :: _=>true
 | _=>false
def same1:AV→AV→Option AV
 | .is [] _,.is [] _=>some (.is [] .no)
 | .int k a,.int k' b=>if k=k'∧a=b then some (.int k a) else none
 | .bool a,.bool b=>if a=b then some (.bool a) else none
 | _,_=>none
def same2 (x y:AV):Option AV :=
 match x,y with
 | .tup [a,b],.tup [c,d]=>match same1 a c,same1 b d with
  | some u,some v=>some (.tup [u,v])
  | _,_=>none
 | a,b=>same1 a b
def aboth (A:Tab) (cf:CallF) (k:Nat) (f:AFn) (args:List AV):Option AV :=
 match aown A cf k f (.is [] .nil :: args.tail),aown A cf k f (.is [] .nn :: args.tail) with
 | some a,some b=>same2 a b
 | _,_=>none
def acall (A:Tab):Nat→CallF
 | 0,_,_,_=>none
 | k+1,g,args,h=>match A g with
  | none=>none
  | some f =>
   if args.length≠f.np then none else
   if f.mode != 0 && imm.immL args then
    (if f.mode == 3 && noElems args then aboth A (acall A k) k f (strip.stripL args) else aown A (acall A k) k f (strip.stripL args)).map fun v=>(v,h,[])
   else if f.mode == 2 then none
   else match abody A (acall A k) k f args h with
    | some (v,h',w)=>some (v,h',w.filter (·<h.length))
    | none=>none
structure GTab where
 gl:Nat→Option (List AV)
 xt:Nat→Option ExtK
 ints:List Nat
end Go.AM
