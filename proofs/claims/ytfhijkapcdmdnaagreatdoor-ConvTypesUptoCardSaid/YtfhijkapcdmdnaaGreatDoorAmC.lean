/- The abstract machine: code of the model turned into the machine's code. -/
import Derived.Test.YtfhijkapcdmdnaaGreatDoorAmA
namespace Go.AM
def compS:Value→Option AV
 | .int k n=>some (.int k n)
 | .bool b=>some (.bool b)
 | .string s=>some (.str s.data.toList)
 | .pointer none=>some .nilp
 | .slice none 0 0=>some (.is [] .nil)
 | .map none=>some .nilm
 | .nilFunc=>some .nilf
 | .nilIface=>some .nili
 | _=>none
def compL:List Value→Option (List AV)
 | []=>some []
 | v :: r=>match compS v,compL r with
  | some x,some l=>some (x :: l)
  | _,_=>none
def compV:Value→Option AV
 | .agg cs=>(compL cs.toList).map .agg
 | v=>compS v
def zcells (P:Program) (t:TypeId):Option (List AV) :=
 match P.info? t with
 | some i=>match i.zero with
  | some z=>compL z.cells.toList
  | none=>none
 | none=>none
def zval (P:Program) (t:TypeId):Option AV :=
 match P.info? t with
 | some i=>match i.zero with
  | some z=>compV z
  | none=>none
 | none=>none
def tsize (P:Program) (t:TypeId):Option Nat:=(P.info? t).map (·.size)
def tbytes (P:Program) (t:TypeId):Option Nat:=(P.info? t).map (·.bytes)
def aggD:TypeDesc→Bool
 | .struct _=>true
 | .array _ _=>true
 | _=>false
def tagg (P:Program) (t:TypeId):Option Bool:=(P.underlying t).map aggD
def compO (G:GTab):Operand→Option AO
 | .tmp t=>some (.t t)
 | .const v=>(compV v).map .c
 | .func f=>some (.c (.fn f [] []))
 | .global g=>(G.gl g).map fun row => .c (.ip row 0)
def compOL (G:GTab):List Operand→Option (List AO)
 | []=>some []
 | v :: r=>match compO G v,compOL G r with
  | some x,some l=>some (x :: l)
  | _,_=>none
def compOO (G:GTab):Option Operand→Option (Option AO)
 | none=>some none
 | some x=>(compO G x).map some
def compFP (P:Program) (G:GTab) (fs:Array Field):List (Nat × Operand)→Option (List (Nat × Nat × AO))
 | []=>some []
 | (i,x) :: r=>match fs[i]? with
  | some f=>match tsize P f.type,compO G x,compFP P G fs r with
   | some sz,some y,some l=>some ((f.offset,sz,y) :: l)
   | _,_,_=>none
  | none=>none
def compEP (G:GTab) (sz:Nat):List (Nat × Operand)→Option (List (Nat × Nat × AO))
 | []=>some []
 | (i,x) :: r=>match compO G x,compEP G sz r with
  | some y,some l=>some ((i*sz,sz,y) :: l)
  | _,_=>none
def shapeGo (P:Program) (f:TypeId→Option (List CK)):List Field→Nat→Option (List CK)
 | [],_=>some []
 | g :: r, off => if g.name = "_" ∨ g.offset ≠ off then none else
  match f g.type with
  | none=>none
  | some ks=>if tsize P g.type≠some ks.length then none else match shapeGo P f r (off+ks.length) with
   | none=>none
   | some l=>some (ks ++ l)
def eqShape (P:Program):Nat→TypeId→Option (List CK)
 | 0,_=>none
 | d+1,t=>match P.underlying t with
  | some (.int k)=>some [.int k]
  | some .bool=>some [.bool]
  | some .string=>some [.str]
  | some (.struct fs)=>if P.stoodInHeld t then none else shapeGo P (eqShape P d) fs.toList 0
  | _=>none
def isC:AO→Bool
 | .c _=>true
 | .t _=>false
def compBin (P:Program) (op:BinOp) (t:TypeId) (x y:AO):Option AOp :=
 match op,P.underlying t with
 | .eql,some (.int _)=>some (.bin .eql x y)
 | .neq,some (.int _)=>some (.bin .neq x y)
 | .eql,some .string=>some (.bin .eql x y)
 | .neq,some .string=>some (.bin .neq x y)
 | .eql,some .bool=>some (.eq false .bool x y)
 | .neq,some .bool=>some (.eq true .bool x y)
 | .eql,some (.pointer _)=>some (.eq false .ptr x y)
 | .neq,some (.pointer _)=>some (.eq true .ptr x y)
 | .eql,some (.slice _)=>some (.eq false .slice x y)
 | .neq,some (.slice _)=>some (.eq true .slice x y)
 | .eql,some (.map _ _)=>some (.eq false .map x y)
 | .neq,some (.map _ _)=>some (.eq true .map x y)
 | .eql,some (.func _ _ _)=>some (.eq false .func x y)
 | .neq,some (.func _ _ _)=>some (.eq true .func x y)
 | .eql,some (.interface _)=>if isC x || isC y then some (.eq false .iface x y) else none
 | .neq,some (.interface _)=>if isC x || isC y then some (.eq true .iface x y) else none
 | .eql,some (.struct _)=>if 9≤P.depth then (eqShape P 9 t).map fun ks => .eq false (.agg ks) x y else none
 | .neq,some (.struct _)=>if 9≤P.depth then (eqShape P 9 t).map fun ks => .eq true (.agg ks) x y else none
 | .eql,_=>none
 | .neq,_=>none
 | op,_=>some (.bin op x y)
def isIntT (P:Program) (t:TypeId):Option Bool:=match P.underlying t with
 | some (.int _)=>some true
 | some _=>some false
 | none=>none
def extOf (G:GTab):Operand→Option ExtK
 | .func f=>G.xt f
 | _=>none
def compCall (P:Program) (G:GTab) (vl:Bool) (c:Call):Option AOp :=
 match c.callee,c.args.toList,c.argTypes.toList with
 | .value f,args,_=>match compO G f,compOL G args with
  | some g,some l=>match extOf G f with
   | some k=>some (.ext k l)
   | none=>some (.call g l)
  | _,_=>none
 | .builtin .len,[x],[t]=>match compO G x,P.underlying t with
  | some y,some .string=>some (.len 0 y)
  | some y,some (.slice _)=>some (.len 1 y)
  | some y,some (.map _ _)=>some (.len 2 y)
  | some _,some (.array n _)=>some (.move (.c (.int .i64 n)))
  | _,_=>none
 | .builtin .append,[x,y],[t,u]=>match compO G x,compO G y,P.underlying t,isIntT P u with
  | some a,some b,some (.slice e),some false=>match tsize P e,tbytes P e,zcells P e with
   | some sz,some by_,some z=>if 1≤sz∧1≤by_∧z.length=sz then some (.append vl sz by_ a b) else none
   | _,_,_=>none
  | _,_,_,_=>none
 | .builtin .copy,[x,y],[t,_]=>match compO G x,compO G y,P.underlying t with
  | some a,some b,some (.slice e)=>match tsize P e with
   | some sz=>if 1≤sz then some (.copy sz a b) else none
   | _=>none
  | _,_,_=>none
 | .builtin .clear,[x],[t]=>match compO G x,P.underlying t with
  | some a,some (.slice e)=>match tsize P e,zcells P e with
   | some sz,some z=>if 1≤sz∧z.length=sz then some (.clear sz z a) else none
   | _,_=>none
  | _,_=>none
 | .builtin .min,[x,y],_=>match compO G x,compO G y with
  | some a,some b=>some (.min a b)
  | _,_=>none
 | .builtin .max,[x,y],_=>match compO G x,compO G y with
  | some a,some b=>some (.max a b)
  | _,_=>none
 | _,_,_=>none
def isU8 (P:Program) (t:TypeId):Bool:=match P.underlying t with
 | some (.int .u8)=>true
 | _=>false
def compConv (P:Program) (vl:Bool) (src dst:TypeId) (x:AO):Option AOp :=
 match P.underlying src,P.underlying dst with
 | some (.int _),some (.int k)=>some (.conv k x)
 | some .string,some .string=>some (.strId x)
 | some (.int _),some .string=>some (.strId x)
 | some (.slice e),some .string=>if isU8 P e then some (.toStr x) else none
 | some .string,some (.slice e)=>if isU8 P e∧tsize P e=some 1 then some (.toBytes vl x) else none
 | _,_=>none
def keyShape (P:Program) (t:TypeId):Option (Bool × List CK):=match tagg P t,eqShape P 9 t,tsize P t with
 | some g,some ks,some n=>if 9≤P.depth∧n=ks.length then some (g,ks) else none
 | _,_,_=>none
def isConc (P:Program) (t:TypeId):Bool:=match P.underlying t with
 | some (.interface _)=>false
 | some _=>true
 | none=>false
def compOp1 (P:Program) (G:GTab) (vl:Bool):Op→Option AOp
 | .move x=>(compO G x).map .move
 | .assign x=>(compO G x).map .move
 | .pick c a b=>match compO G c,compO G a,compO G b with
  | some c,some a,some b=>some (.pick c a b)
  | _,_,_=>none
 | .alloc t=>(zcells P t).map (.alloc vl)
 | .box _ x=>(compO G x).map (.box vl)
 | .build t parts=>match zcells P t,P.underlying t with
  | some z,some (.struct fs)=>if fs.all fun f=>(P.info? f.type).isSome then (compFP P G fs parts.toList).map (.build z ·) else none
  | some z,some (.array _ e)=>match tsize P e with
   | some sz=>(compEP G sz parts.toList).map (.build z ·)
   | none=>none
  | _,_=>none
 | .buildSlice t len parts=>match P.underlying t with
  | some (.slice e)=>match tsize P e,zcells P e with
   | some sz,some z=>if 1≤sz∧z.length=sz∧len*sz≤2 ^ 24 then (compEP G sz parts.toList).map (.buildSlice vl sz len (repeatCells len z) ·) else none
   | _,_=>none
  | _=>none
 | .load t a=>match tagg P t,tsize P t,compO G a with
  | some g,some sz,some p=>some (.load g sz p)
  | _,_,_=>none
 | .store t a x=>match tsize P t,compO G a,compO G x with
  | some sz,some p,some y=>some (.store sz p y)
  | _,_,_=>none
 | .nilCheck x=>(compO G x).map .nilCheck
 | .binOp op t x y _=>match compO G x,compO G y with
  | some x,some y=>compBin P op t x y
  | _,_=>none
 | .unOp op _ x=>(compO G x).map (.un op ·)
 | .convert src dst x=>match compO G x with
  | some x=>compConv P vl src dst x
  | none=>none
 | .makeFunc (.func f) first captured=>match compOL G first.toList,compOL G captured.toList with
  | some l,some m=>some (.fn f l m)
  | _,_=>none
 | .makeMap _ none=>some .mkMap
 | .lookup t x i ok=>match P.underlying t,compO G x,compO G i with
  | some (.map kt et),some x,some i=>match keyShape P kt,zval P et with
   | some (kg,ks),some z=>some (.lookup kg ks z ok x i)
   | _,_=>none
  | _,_,_=>none
 | .mapUpdate t x i v=>match P.underlying t,compO G x,compO G i,compO G v with
  | some (.map kt _),some x,some i,some v=>match keyShape P kt with
   | some (kg,ks)=>some (.mapUpdate kg ks x i v)
   | none=>none
  | _,_,_,_=>none
 | .makeInterface t x=>if isConc P t then (compO G x).map (.mkIface t ·) else none
 | .makeSlice t l c=>match P.underlying t with
  | some (.slice e)=>match tsize P e,tbytes P e,zcells P e,compO G l,compO G c with
   | some sz,some by_,some z,some l,some c=>if 1≤sz∧z.length=sz then some (.mkSlice vl sz by_ z l c) else none
   | _,_,_,_,_=>none
  | _=>none
 | .slice t x lo hi mx=>match P.underlying t,compO G x,compOO G lo,compOO G hi,compOO G mx with
  | some (.slice e),some x,some lo,some hi,some mx=>match tsize P e with
   | some sz=>if mx.isSome∧¬ hi.isSome then none else if 1≤sz then some (.slice sz x lo hi mx) else none
   | none=>none
  | some .string,some x,some lo,some hi,some none=>some (.strSlice x lo hi)
  | _,_,_,_,_=>none
 | .fieldAddr t x f=>match P.underlying t,compO G x with
  | some (.struct fs),some x=>match fs[f]? with
   | some g=>match tsize P g.type with
    | some sz=>if sz=0 then none else some (.fieldAddr g.offset x)
    | none=>none
   | none=>none
  | _,_=>none
 | .field t x f=>match P.underlying t,compO G x with
  | some (.struct fs),some x=>match fs[f]? with
   | some g=>match tagg P g.type,tsize P g.type with
    | some ag,some sz=>some (.field ag g.offset sz x)
    | _,_=>none
   | none=>none
  | _,_=>none
 | .indexAddr t x i=>match P.underlying t,compO G x,compO G i with
  | some (.slice e),some x,some i=>(tsize P e).map fun sz => .idxAddr sz x i
  | some (.array n e),some x,some i=>(tsize P e).map fun sz => .idxArr n sz x i
  | _,_,_=>none
 | .index t x i=>match P.underlying t,compO G x,compO G i with
  | some .string,some x,some i=>some (.strIndex x i)
  | some (.array n e),some x,some i=>match tagg P e,tsize P e with
   | some ag,some sz=>some (.index ag n sz x i)
   | _,_=>none
  | _,_,_=>none
 | .extract x i=>(compO G x).map (.extract · i)
 | .call c=>compCall P G vl c
 | _=>none
def compOp (P:Program) (G:GTab) (vl:Bool) (o:Op):AOp:=(compOp1 P G vl o).getD .stuck
def AOp.makes:AOp→Bool
 | .alloc v _ | .box v _ | .buildSlice v _ _ _ _=>!v
 | .toBytes _ _ | .mkSlice _ _ _ _ _ _ | .append _ _ _ _ _ | .mkMap=>true
 | _=>false
def compG (ops:Array Oper):Option (Nat × Bool)→Option (Option (Nat × Bool))
 | none=>some none
 | some (j,want)=>match (ops[j]?).bind (·.dst) with
  | some t=>some (some (t,want))
  | none=>none
def depOf (deps:List Nat):List Edge→Nat
 | []=>0
 | e :: r=>if Region.binds .any e then depOf deps r ||| 2 ^ e.on ||| deps.getD e.on 0 else depOf deps r
def isVal (vals:List Nat):Option Nat→Bool
 | some d=>vals.contains d
 | none=>false
def compOps (P:Program) (G:GTab) (vals:List Nat) (ops:Array Oper):List Oper→List Nat→Nat→Option (List AOper × Nat)
 | [],_,n=>some ([],n)
 | o :: r,deps,n=>match compG ops o.guard with
  | some g=>match compOps P G vals ops r (deps ++ [depOf deps o.after.toList]) (if (compOp P G (isVal vals o.dst) o.op).makes then n+1 else n) with
   | some (l,m)=>some ({ dst:=o.dst,op:=compOp P G (isVal vals o.dst) o.op,guard:=g,slot:=n,dep:=depOf deps o.after.toList } :: l,m)
   | none=>none
  | _=>none
def edgesBack (ops:Array Oper):Bool:=(List.range ops.size).all fun i=>match ops[i]? with
 | some o=>o.after.toList.all fun e=>!Region.binds .any e || decide (e.on<i)
 | none=>true
def lookupKeep:List (Nat × List Nat)→Nat→List Nat
 | [],_=>[]
 | (i,l) :: r,n=>if i=n then l else lookupKeep r n
def compC (P:Program) (G:GTab) (vals:List Nat) (keeps:List (Nat × List Nat)):Code→ACode
 | .skip => .skip
 | .region id ops draw=>match compOps P G vals ops ops.toList [] 0 with
  | some (l,n)=>if !draw || edgesBack ops then .region draw l (lookupKeep keeps id) n else .stuck
  | none => .stuck
 | .seq a b => .seq (compC P G vals keeps a) (compC P G vals keeps b)
 | .cond c a b=>match compO G c with
  | some c => .cond c (compC P G vals keeps a) (compC P G vals keeps b)
  | none => .stuck
 | .block id b => .block id (compC P G vals keeps b)
 | .loop b => .loop (compC P G vals keeps b)
 | .exit id => .exit id
 | .ret => .ret
 | .scope b=>compC P G vals keeps b
 | .label _ => .skip
 | _ => .stuck
def compR (P:Program):List ResultVar→Option (List ARes)
 | []=>some []
 | .tmp t :: r=>(compR P r).map (.tmp t :: ·)
 | .cell a t :: r=>match tagg P t,tsize P t,compR P r with
  | some g,some sz,some l=>some (.cell a g sz :: l)
  | _,_,_=>none
def compF (P:Program) (G:GTab) (vals:List Nat) (keeps:List (Nat × List Nat)) (mode:Nat) (fn:Func):Option AFn :=
 match fn.body with
 | some c=>match compR P fn.results.toList with
  | some r => if fn.name == "runtime.NumGoroutine" || decide (fn.ntmps < fn.params.size + fn.nfree) then none else some { np := fn.params.size + fn.nfree, nt := fn.ntmps, res := r, body := compC P G vals keeps c, mode := mode, ext := none }
  | none=>none
 | none=>none
end Go.AM
