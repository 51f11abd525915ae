/- The abstract machine, step by step: what code comes to, without fuel and without a log, in equations. -/
import Derived.Test.YtfhijkapcdmdnaaGreatDoorAmQ
namespace Go.AM
def ofL:List (Nat × AV)→Env
 | [],_ => .undef
 | (k,v) :: r,n=>if n=k then v else ofL r n
theorem ofL_nil (n:Nat):ofL [] n = .undef:=rfl
theorem ofL_cons (k:Nat) (v:AV) (r:List (Nat × AV)) (n:Nat):ofL ((k,v) :: r) n=if n=k then v else ofL r n:=rfl
theorem prune_ofL (keep:List Nat) (e:Env):prune keep e=ofL (keep.map fun k=>(k,e k)):=by
 funext t
 unfold prune
 induction keep with
 | nil=>rfl
 | cons k r ih =>
  simp only [List.map_cons,ofL_cons]
  by_cases h:t=k
  ·subst h;simp
  ·rw [if_neg h,← ih]
   have:(k :: r).contains t=r.contains t:=by simp [h]
   rw [this]
theorem args_ofL:∀ (l:List AV) (k:Nat),(fun t=>if t<k then AV.undef else l.getD (t - k) .undef)=ofL (l.zipIdx k |>.map fun p=>(p.2,p.1)):=by
 intro l
 induction l with
 | nil=>intro k;funext t;simp [ofL]
 | cons x r ih =>
  intro k
  funext t
  have:=congrFun (ih (k+1)) t
  simp only [List.zipIdx_cons,List.map_cons,ofL_cons]
  rw [← this]
  by_cases h:t=k
  ·subst h;simp
  ·rw [if_neg h]
   by_cases h1:t<k
   ·simp [h1,Nat.lt_succ_of_lt h1]
   ·rw [if_neg h1,if_neg (by omega),show t - k=(t - (k+1))+1 by omega,List.getD_cons_succ]
theorem args_env (l:List AV):(fun t=>l.getD t AV.undef)=ofL (l.zipIdx.map fun p=>(p.2,p.1)):=by
 have:=args_ofL l 0
 simpa using this
section
variable (A:Tab) (nt:Nat)
noncomputable def Ccall (g:Nat) (args:List AV) (h:Heap):Option (AV × Heap):=(Acall A g args h).map fun r=>(r.1,r.2.1)
noncomputable def stepF (lone:Bool) (slot:Nat) (op:AOp) (e:Env) (h:Heap):Option (AV × Heap) :=
 match op with
 | .call f args=>match ev e f with
  | .fn g first caps=>if (!lone || isPure A g (first ++ args.map (ev e) ++ caps))=true then Ccall A g (first ++ args.map (ev e) ++ caps) h else none
  | _=>none
 | op=>(aop slot e op).run slot h
def guardV (v:AV) (want:Bool) (x:Option (AV × Heap)) (h:Heap):Option (AV × Heap) :=
 match v with
 | .bool b=>if b=want then x else some (.tup [],h)
 | .tup []=>some (.tup [],h)
 | _=>none
def guardF (e:Env) (g:Option (Nat × Bool)) (x:Option (AV × Heap)) (h:Heap):Option (AV × Heap) :=
 match g with
 | none=>x
 | some (t,want)=>guardV (e t) want x h
def putF (e:Env) (d:Option Nat) (v:AV) {α:Type} (k:Env→Option α):Option α :=
 match d with
 | none=>k e
 | some d=>if d<nt then k (upd e d v) else none
def andF {α β:Type} (r:Option (α × β)) {γ:Type} (k:α→β→Option γ):Option γ :=
 match r with
 | some (a,b)=>k a b
 | none=>none
noncomputable def stepsF (step:Nat→AOp→Env→Heap→Option (AV × Heap)) (base:Nat):List AOper→Env→Heap→Option (Env × Heap)
 | [],e,h=>some (e,h)
 | ⟨d,op,g,sl,_⟩ :: r,e,h=>andF (guardF e g (step (base+sl) op e h) h) fun v h'=>putF nt e d v fun e'=>stepsF step base r e' h'
variable {A nt}
theorem putF_put {e:Env} {d:Option Nat} {v:AV} {α:Type} {k:Env→Option α}:putF nt e d v k=(put nt e d v).bind k:=by
 unfold putF put
 cases d with
 | none=>rfl
 | some d=>by_cases h:d<nt<;>simp [h]
theorem guardF_wanted {e:Env} {g:Option (Nat × Bool)} {x:Option (AV × Heap)} {h:Heap}:guardF e g x h=match wanted e g with
  | none=>none
  | some true=>x
  | some false=>some (.tup [],h):=by
 unfold guardF wanted
 cases g with
 | none=>rfl
 | some p =>
  obtain ⟨t,want⟩:=p
  dsimp only
  generalize e t=v
  cases v with
  | bool b =>
   simp only [guardV]
   by_cases q:b=want
   ·subst q;simp
   ·have:(b == want)=false:=by simpa using q
    simp [this,q]
  | tup l=>cases l<;>rfl
  | _=>rfl
theorem stepRun_F {base:Nat} {o:AOper} {e:Env} {h:Heap}:(stepRun (Acall A) (isPure A) base o e h).map (fun r=>(r.1,r.2.1))=stepF A false (base+o.slot) o.op e h:=by
 by_cases ho:∃ f args,o.op = .call f args
 ·obtain ⟨f,args,ho⟩:=ho
  rw [stepRun_call ho,ho]
  simp only [stepF,Ccall,Bool.not_false,Bool.true_or,if_true]
  generalize ev e f=q
  cases q with
  | fn g first caps =>
   dsimp only
   cases Acall A g (first ++ args.map (ev e) ++ caps) h with
   | none=>rfl
   | some r=>obtain ⟨v,h',w⟩:=r;rfl
  | _=>rfl
 ·have ho:∀ f args,o.op ≠ .call f args:=fun f args q=>ho ⟨f,args,q⟩
  rw [stepRun_other ho]
  have:stepF A false (base+o.slot) o.op e h=(aop (base+o.slot) e o.op).run (base+o.slot) h:=by
   generalize o.op=op at ho
   cases op<;>first|rfl|exact (ho _ _ rfl).elim
  rw [this]
  cases (aop (base+o.slot) e o.op).run (base+o.slot) h with
  | none=>rfl
  | some r=>obtain ⟨v,h'⟩:=r;rfl
theorem asteps_F {base:Nat}:∀ {l:List AOper} {e:Env} {h:Heap},(asteps (Acall A) (isPure A) nt base l e h).map (fun r=>(r.1,r.2.1))=stepsF nt (stepF A false) base l e h:=by
 intro l
 induction l with
 | nil=>intro e h;rfl
 | cons o t ih =>
  intro e h
  obtain ⟨d,op,g,sl,dp⟩:=o
  have hF:=stepRun_F (A:=A) (base:=base) (o:=⟨d,op,g,sl,dp⟩) (e:=e) (h:=h)
  simp only [asteps,astep,stepsF,guardF_wanted]
  cases wanted e g with
  | none=>rfl
  | some b =>
   cases b with
   | false =>
    simp only [putF_put,andF]
    cases put nt e d (.tup []) with
    | none=>rfl
    | some e1 =>
     simp only [Option.map_some,Option.bind_some,← ih,Option.map_map]
     rfl
   | true =>
    simp only at hF ⊢
    rw [← hF]
    cases stepRun (Acall A) (isPure A) base ⟨d,op,g,sl,dp⟩ e h with
    | none=>rfl
    | some r =>
     obtain ⟨v,h',rc⟩:=r
     simp only [Option.map_some,andF,putF_put]
     cases put nt e d v with
     | none=>rfl
     | some e1 =>
      simp only [Option.map_some,Option.bind_some,← ih,Option.map_map]
      rfl
variable (A nt)
noncomputable def Brun (c:ACode) (e:Env) (h:Heap):Option (Ex × Env × Heap):=(Arun A nt c ⟨e,h,[]⟩).map fun r=>(r.1,r.2.env,r.2.heap)
variable {A nt}
def unlog (r:Ex × St):Ex × Env × Heap:=(r.1,r.2.env,r.2.heap)
theorem aregion_log {cf:CallF} {pu:PureF} {d:Bool} {ops:List AOper} {keep:List Nat} {n:Nat} {e:Env} {h:Heap} (l l':List Nat) :
  ((aregion cf pu nt d ops keep n ⟨e,h,l⟩).map fun s=>(s.env,s.heap))=(aregion cf pu nt d ops keep n ⟨e,h,l'⟩).map fun s=>(s.env,s.heap):=by
 unfold aregion
 dsimp only
 cases asteps cf pu nt h.length ops e (h ++ List.replicate n .free) with
 | none=>rfl
 | some r =>
  obtain ⟨e1,h1,rs⟩:=r
  dsimp only
  split<;>rfl
theorem unlog_inj {x:Option (Ex × St)} {ex:Ex} {e:Env} {h:Heap} (q:x.map unlog=some (ex,e,h)):∃ l,x=some (ex,⟨e,h,l⟩):=by
 simp only [Option.map_eq_some_iff] at q
 obtain ⟨⟨ex',⟨e',h',l⟩⟩,rfl,hq⟩:=q
 simp only [unlog,Prod.mk.injEq] at hq
 obtain ⟨rfl,rfl,rfl⟩:=hq
 exact ⟨l,rfl⟩
theorem arun_log {cf:CallF} {pu:PureF} {fuel:Nat}:∀ (c:ACode) (e:Env) (h:Heap) (l l':List Nat),(arun cf pu nt fuel c ⟨e,h,l⟩).map unlog=(arun cf pu nt fuel c ⟨e,h,l'⟩).map unlog:=by
 have next:∀ {x y:Option (Ex × St)} {f:St→Option (Ex × St)},x.map unlog=y.map unlog→(∀ (e:Env) (h:Heap) (l l':List Nat),(f ⟨e,h,l⟩).map unlog=(f ⟨e,h,l'⟩).map unlog) →
   (andNext x f).map unlog=(andNext y f).map unlog:=fun {x y f} hq hf=>by
  cases x with
  | none=>cases y with
   | none=>rfl
   | some _=>simp at hq
  | some r =>
   obtain ⟨ex,⟨e,h,l⟩⟩:=r
   obtain ⟨l',rfl⟩:=unlog_inj (x:=y) (ex:=ex) (e:=e) (h:=h) hq.symm
   cases ex with
   | normal=>exact hf e h l l'
   | exit i=>rfl
   | ret=>rfl
 intro c
 induction c with
 | skip=>intro e h l l';rfl
 | exit id=>intro e h l l';rfl
 | ret=>intro e h l l';rfl
 | stuck=>intro e h l l';rfl
 | region d ops keep n =>
  intro e h l l'
  simp only [arun,Option.map_map]
  have:=aregion_log (nt:=nt) (cf:=cf) (pu:=pu) (d:=d) (ops:=ops) (keep:=keep) (n:=n) (e:=e) (h:=h) l l'
  cases hx:aregion cf pu nt d ops keep n ⟨e,h,l⟩ with
  | none=>rw [hx] at this;cases hy:aregion cf pu nt d ops keep n ⟨e,h,l'⟩ with
   | none=>rfl
   | some _=>rw [hy] at this;cases this
  | some s=>rw [hx] at this;cases hy:aregion cf pu nt d ops keep n ⟨e,h,l'⟩ with
   | none=>rw [hy] at this;cases this
   | some s' =>
    rw [hy] at this
    simp only [Option.map_some,Option.some.injEq,Prod.mk.injEq] at this
    simp [unlog,this.1,this.2]
 | seq a b iha ihb =>
  intro e h l l'
  simp only [arun_seq]
  exact next (iha e h l l') ihb
 | cond c a b iha ihb =>
  intro e h l l'
  simp only [arun]
  split
  ·exact iha e h l l'
  ·exact ihb e h l l'
  ·rfl
 | block id b ih =>
  intro e h l l'
  simp only [arun_block,Option.map_map]
  have:=ih e h l l'
  cases hx:arun cf pu nt fuel b ⟨e,h,l⟩ with
  | none=>rw [hx] at this;cases hy:arun cf pu nt fuel b ⟨e,h,l'⟩ with
   | none=>rfl
   | some _=>rw [hy] at this;cases this
  | some r =>
   rw [hx] at this
   obtain ⟨ex,⟨e1,h1,l1⟩⟩:=r
   obtain ⟨l2,hy⟩:=unlog_inj (x:=arun cf pu nt fuel b ⟨e,h,l'⟩) (ex:=ex) (e:=e1) (h:=h1) this.symm
   rw [hy]
   cases ex with
   | normal=>rfl
   | ret=>rfl
   | exit i=>simp only [Option.map_some,Function.comp,unBlock];split<;>rfl
 | loop b ih =>
  intro e h l l'
  simp only [arun]
  have key:∀ (n:Nat) (e:Env) (h:Heap) (l l':List Nat),(aloop (arun cf pu nt fuel b) n ⟨e,h,l⟩).map unlog=(aloop (arun cf pu nt fuel b) n ⟨e,h,l'⟩).map unlog:=by
   intro n
   induction n with
   | zero=>intro e h l l';rfl
   | succ n ihn=>intro e h l l';exact next (ih e h l l') ihn
  exact key fuel e h l l'
theorem Arun_log (c:ACode) (e:Env) (h:Heap) (l l':List Nat):(Arun A nt c ⟨e,h,l⟩).map unlog=(Arun A nt c ⟨e,h,l'⟩).map unlog:=by
 have half:∀ (l l':List Nat) r,(Arun A nt c ⟨e,h,l⟩).map unlog=some r→(Arun A nt c ⟨e,h,l'⟩).map unlog=some r:=fun l l' r hr=>by
  obtain ⟨ex,e1,h1⟩:=r
  obtain ⟨l1,hx⟩:=unlog_inj hr
  obtain ⟨k,hk⟩:=Arun_iff.1 hx
  have:=arun_log (nt:=nt) (cf:=acall A k) (pu:=isPure A) (fuel:=k) c e h l l'
  rw [hk] at this
  obtain ⟨l2,hy⟩:=unlog_inj this.symm
  rw [Arun_iff.2 ⟨k,hy⟩]
  rfl
 apply Option.ext
 intro r
 exact ⟨half l l' r,half l' l r⟩
theorem Brun_any (c:ACode) (s:St):(Arun A nt c s).map unlog=Brun A nt c s.env s.heap:=Arun_log c s.env s.heap s.log []
def bthen (r:Option (Ex × Env × Heap)) (f:Env→Heap→Option (Ex × Env × Heap)):Option (Ex × Env × Heap) :=
 match r with
 | some (.normal,e,h)=>f e h
 | r=>r
def bcond (v:AV) (x y:Option (Ex × Env × Heap)):Option (Ex × Env × Heap) :=
 match v with
 | .bool b=>if b=true then x else y
 | _=>none
def bblock (id:Nat) (r:Option (Ex × Env × Heap)):Option (Ex × Env × Heap) :=
 match r with
 | some (.exit i,e,h)=>if i=id then some (.normal,e,h) else some (.exit i,e,h)
 | r=>r
def bkeep (keep:List Nat) (r:Option (Env × Heap)):Option (Ex × Env × Heap) :=
 match r with
 | some (e,h)=>some (.normal,ofL (keep.map fun k=>(k,e k)),h)
 | none=>none
theorem Brun_skip {e:Env} {h:Heap}:Brun A nt .skip e h=some (.normal,e,h):=by simp [Brun,Arun_skip]
theorem Brun_exit {e:Env} {h:Heap} {i:Nat}:Brun A nt (.exit i) e h=some (.exit i,e,h):=by simp [Brun,Arun_exit]
theorem Brun_ret {e:Env} {h:Heap}:Brun A nt .ret e h=some (.ret,e,h):=by simp [Brun,Arun_ret]
theorem andNext_unlog {r:Option (Ex × St)} {c:ACode}:(andNext r (Arun A nt c)).map unlog=bthen (r.map unlog) (Brun A nt c):=by
 cases r with
 | none=>rfl
 | some x =>
  obtain ⟨ex,s⟩:=x
  cases ex with
  | normal=>exact Brun_any c s
  | exit i=>rfl
  | ret=>rfl
theorem Brun_seq {a b:ACode} {e:Env} {h:Heap}:Brun A nt (.seq a b) e h=bthen (Brun A nt a e h) (Brun A nt b):=by
 show (Arun A nt (.seq a b) ⟨e,h,[]⟩).map unlog=_
 rw [Arun_seq,andNext_unlog]
 rfl
theorem Brun_cond {c:AO} {a b:ACode} {e:Env} {h:Heap}:Brun A nt (.cond c a b) e h=bcond (ev e c) (Brun A nt a e h) (Brun A nt b e h):=by
 show (Arun A nt (.cond c a b) ⟨e,h,[]⟩).map unlog=_
 rw [Arun_cond]
 dsimp only
 cases ev e c with
 | bool b=>cases b<;>rfl
 | _=>rfl
theorem Brun_block {id:Nat} {b:ACode} {e:Env} {h:Heap}:Brun A nt (.block id b) e h=bblock id (Brun A nt b e h):=by
 show (Arun A nt (.block id b) ⟨e,h,[]⟩).map unlog=_
 rw [Arun_block]
 unfold Brun
 cases Arun A nt b ⟨e,h,[]⟩ with
 | none=>rfl
 | some x =>
  obtain ⟨ex,s⟩:=x
  cases ex with
  | normal=>rfl
  | ret=>rfl
  | exit i=>simp only [Option.map_some,unBlock,bblock];split<;>rfl
theorem Brun_loop {b:ACode} {e:Env} {h:Heap}:Brun A nt (.loop b) e h=bthen (Brun A nt b e h) (Brun A nt (.loop b)):=by
 show (Arun A nt (.loop b) ⟨e,h,[]⟩).map unlog=_
 rw [Arun_loop,andNext_unlog]
 rfl
theorem Brun_region {ops:List AOper} {keep:List Nat} {n:Nat} {e:Env} {h:Heap}:Brun A nt (.region false ops keep n) e h=bkeep keep (stepsF nt (stepF A false) h.length ops e (h ++ List.replicate n .free)):=by
 unfold Brun
 rw [Arun_region,← asteps_F]
 unfold aregion
 dsimp only
 cases asteps (Acall A) (isPure A) nt h.length ops e (h ++ List.replicate n .free) with
 | none=>rfl
 | some r =>
  obtain ⟨e1,h1,rs⟩:=r
  simp [bkeep,prune_ofL]
theorem Brun_drawn {ops:List AOper} {keep:List Nat} {n:Nat} {e e':Env} {h h':Heap} {rs:List Rec}
  (hs:asteps (Acall A) (isPure A) nt h.length ops e (h ++ List.replicate n .free)=some (e',h',rs)) (hd:drawOK 0 (ops.zip rs)=true) :
  Brun A nt (.region true ops keep n) e h=some (.normal,ofL (keep.map fun k=>(k,e' k)),h'):=by
 unfold Brun
 rw [Arun_region]
 unfold aregion
 simp [hs,hd,prune_ofL]
def cls:AOp→Nat
 | .load _ _ _ | .len _ _ | .lookup _ _ _ _ _ _=>1
 | .alloc v _ | .box v _=>if v then 0 else 2
 | .mkMap=>2
 | .store _ _ _ | .toStr _ | .toBytes _ _ | .mkSlice _ _ _ _ _ _ | .append _ _ _ _ _ | .copy _ _ _ | .clear _ _ _ | .mapUpdate _ _ _ _ _ | .buildSlice _ _ _ _ _=>3
 | _=>0
def free2 (x y:AOper):Bool :=
 apart x y && match cls x.op,cls y.op with
  | 0,_=>true
  | _,0=>true
  | 1,1=>true
  | 2,2=>x.slot != y.slot
  | _,_=>false
def freeS (i:Nat) (o:AOper):List AOper→Bool
 | []=>true
 | p :: rest=>(p.dep.testBit i || free2 o p) && freeS i o rest
def staticOK (i:Nat):List AOper→Bool
 | []=>true
 | o :: rest=>freeS i o rest && staticOK (i+1) rest
def recOK (slot:Nat) (c:Nat):Rec→Prop
 | .no=>True
 | .hc r w=>(c=0→r=[]∧w=[])∧(c=1→w=[])∧(c=2→r=[]∧w=[slot])
 | .kc _ _=>False
theorem ofOpt_rds {slot:Nat} {x:Option AV} {h:Heap}:(HC.ofOpt x).rds slot h=[]:=by cases x<;>rfl
theorem ofOpt_wrs {slot:Nat} {x:Option AV} {h:Heap}:(HC.ofOpt x).wrs slot h=[]:=by cases x<;>rfl
theorem cls_rec {slot:Nat} {e:Env} {op:AOp} (hn:isCall op=false) {h h':Heap} {v:AV} (hr:(aop slot e op).run slot h=some (v,h')):recOK slot (cls op) (.hc ((aop slot e op).rds slot h) ((aop slot e op).wrs slot h)):=by
 have none0:∀ {c:HC},(∃ v,c = .done v)∨c = .fail→recOK slot 0 (.hc (c.rds slot h) (c.wrs slot h)):=fun {c} hc=>by
  rcases hc with ⟨v,rfl⟩|rfl<;>exact ⟨fun _=>⟨rfl,rfl⟩,fun _=>rfl,fun q=>by cases q⟩
 have opt0:∀ {x:Option AV},recOK slot 0 (.hc ((HC.ofOpt x).rds slot h) ((HC.ofOpt x).wrs slot h)):=fun {x}=>⟨fun _=>⟨ofOpt_rds,ofOpt_wrs⟩,fun _=>ofOpt_wrs,fun q=>by cases q⟩
 cases op with
 | call f args=>cases hn
 | move x=>exact none0 (.inl ⟨_,rfl⟩)
 | pick c a b=>simp only [aop] at hr ⊢;split<;>first|exact none0 (.inl ⟨_,rfl⟩)|exact none0 (.inr rfl)
 | alloc vl z =>
  cases vl with
  | true=>exact none0 (.inl ⟨_,rfl⟩)
  | false=>exact ⟨fun q=>(by cases q),fun q=>(by cases q),fun _=>⟨rfl,rfl⟩⟩
 | box vl x =>
  cases hcs:cellsOf (ev e x) with
  | none=>simp [aop,hcs,HC.run] at hr
  | some cs =>
   cases vl with
   | true =>
    simp only [aop,hcs,if_true]
    split<;>first|exact none0 (.inl ⟨_,rfl⟩)|exact none0 (.inr rfl)
   | false =>
    simp only [aop,hcs,Bool.false_eq_true,if_false]
    exact ⟨fun q=>(by cases q),fun q=>(by cases q),fun _=>⟨rfl,rfl⟩⟩
 | mkMap=>exact ⟨fun q=>(by cases q),fun q=>(by cases q),fun _=>⟨rfl,rfl⟩⟩
 | load g s p =>
  refine ⟨fun q=>(by cases q),fun _=>?_,fun q=>(by cases q)⟩
  simp only [aop]
  split
  ·exact ofOpt_wrs
  ·simp only [HC.wrs]
   split
   ·split
    ·exact ofOpt_wrs
    ·rfl
   ·rfl
  ·rfl
 | len k x =>
  refine ⟨fun q=>(by cases q),fun _=>?_,fun q=>(by cases q)⟩
  simp only [aop]
  split<;>first|rfl|skip
  simp only [HC.wrs]
  split
  ·split<;>rfl
  ·rfl
 | lookup kg ks z ok m k =>
  refine ⟨fun q=>(by cases q),fun _=>?_,fun q=>(by cases q)⟩
  simp only [aop]
  split
  ·rfl
  ·split
   ·rfl
   ·split
    ·rfl
    ·simp only [HC.wrs]
     split
     ·split
      ·exact ofOpt_wrs
      ·rfl
     ·rfl
    ·rfl
 | build z ps=>simp only [aop];split<;>first|exact none0 (.inl ⟨_,rfl⟩)|exact none0 (.inr rfl)
 | nilCheck x=>simp only [aop];split<;>first|exact none0 (.inl ⟨_,rfl⟩)|exact none0 (.inr rfl)
 | bin op x y=>exact opt0
 | eq n k x y=>exact opt0
 | un op x=>exact opt0
 | conv k x=>simp only [aop];split<;>first|exact none0 (.inl ⟨_,rfl⟩)|exact none0 (.inr rfl)
 | strId x=>exact opt0
 | fn f first caps=>exact none0 (.inl ⟨_,rfl⟩)
 | slice sz x lo hi mx=>exact opt0
 | strSlice x lo hi =>
  simp only [aop]
  split
  ·split
   ·exact none0 (.inr rfl)
   ·split<;>first|exact none0 (.inl ⟨_,rfl⟩)|exact none0 (.inr rfl)
  ·exact none0 (.inr rfl)
 | fieldAddr off p=>simp only [aop];split<;>first|exact none0 (.inl ⟨_,rfl⟩)|exact none0 (.inr rfl)
 | field g off sz x=>simp only [aop];split<;>first|exact opt0|exact none0 (.inr rfl)
 | idxAddr sz x i =>
  simp only [aop]
  split
  ·split
   ·split
    ·split<;>first|exact none0 (.inl ⟨_,rfl⟩)|exact none0 (.inr rfl)
    ·exact none0 (.inr rfl)
   ·exact none0 (.inr rfl)
  ·split<;>first|exact none0 (.inl ⟨_,rfl⟩)|exact none0 (.inr rfl)
  ·exact none0 (.inr rfl)
 | idxArr n sz p i =>
  simp only [aop]
  split
  ·split<;>first|exact none0 (.inl ⟨_,rfl⟩)|exact none0 (.inr rfl)
  ·split<;>first|exact none0 (.inl ⟨_,rfl⟩)|exact none0 (.inr rfl)
  ·exact none0 (.inr rfl)
 | index g n sz x i =>
  simp only [aop]
  split
  ·split<;>first|exact opt0|exact none0 (.inr rfl)
  ·exact none0 (.inr rfl)
 | strIndex x i =>
  simp only [aop]
  split
  ·split
   ·split<;>first|exact none0 (.inl ⟨_,rfl⟩)|exact none0 (.inr rfl)
   ·exact none0 (.inr rfl)
  ·exact none0 (.inr rfl)
 | extract x i=>simp only [aop];split<;>first|exact opt0|exact none0 (.inr rfl)
 | min x y=>simp only [aop];split<;>first|exact none0 (.inl ⟨_,rfl⟩)|exact none0 (.inr rfl)
 | max x y=>simp only [aop];split<;>first|exact none0 (.inl ⟨_,rfl⟩)|exact none0 (.inr rfl)
 | mkIface t x=>exact none0 (.inl ⟨_,rfl⟩)
 | ext k args=>exact opt0
 | stuck=>cases hr
 | store _ _ _|toStr _|toBytes _ _|mkSlice _ _ _ _ _ _|append _ _ _ _ _|copy _ _ _|clear _ _ _|mapUpdate _ _ _ _ _|buildSlice _ _ _ _ _ =>
  exact ⟨fun q=>(by cases q),fun q=>(by cases q),fun q=>(by cases q)⟩
theorem recOK_indep {base:Nat} {x y:AOper} {r s:Rec} (hx:recOK (base+x.slot) (cls x.op) r) (hy:recOK (base+y.slot) (cls y.op) s) (hf:free2 x y=true):r.indep s=true∧apart x y=true:=by
 simp only [free2,Bool.and_eq_true] at hf
 refine ⟨?_,hf.1⟩
 have hf:=hf.2
 cases r with
 | no=>rfl
 | kc n w=>exact hx.elim
 | hc r w =>
  cases s with
  | no=>rfl
  | kc n w=>exact hy.elim
  | hc r' w' =>
   obtain ⟨x0,x1,x2⟩:=hx
   obtain ⟨y0,y1,y2⟩:=hy
   generalize cls x.op=cx at *
   generalize cls y.op=cy at *
   split at hf
   ·obtain ⟨rfl,rfl⟩:=x0 rfl
    simp [Rec.indep,disj]
   ·obtain ⟨rfl,rfl⟩:=y0 rfl
    simp [Rec.indep,disj]
   ·obtain rfl:=x1 rfl
    obtain rfl:=y1 rfl
    simp [Rec.indep,disj]
   ·obtain ⟨rfl,rfl⟩:=x2 rfl
    obtain ⟨rfl,rfl⟩:=y2 rfl
    have:x.slot≠y.slot:=by simpa using hf
    simp [Rec.indep,disj]
    omega
   ·cases hf
def RecsOK (base:Nat):List AOper→List Rec→Prop
 | [],[]=>True
 | o :: l,r :: rs=>recOK (base+o.slot) (cls o.op) r∧RecsOK base l rs
 | _,_=>False
theorem freeS_free {base:Nat} {i:Nat} {o:AOper} {r:Rec} (hr:recOK (base+o.slot) (cls o.op) r):∀ {l:List AOper} {rs:List Rec},RecsOK base l rs→freeS i o l=true→freeOf i o r (l.zip rs)=true:=by
 intro l
 induction l with
 | nil=>intro rs _ _;rfl
 | cons p l ih =>
  intro rs h hf
  cases rs with
  | nil=>exact h.elim
  | cons s rs =>
   simp only [freeS,Bool.and_eq_true,Bool.or_eq_true] at hf
   simp only [List.zip_cons_cons,freeOf,Bool.and_eq_true,Bool.or_eq_true]
   exact ⟨hf.1.imp id fun q=>⟨.inl (recOK_indep hr h.1 q).1,(recOK_indep hr h.1 q).2⟩,ih h.2 hf.2⟩
theorem static_draw {base:Nat}:∀ {l:List AOper} {rs:List Rec} {i:Nat},RecsOK base l rs→staticOK i l=true→drawOK i (l.zip rs)=true:=by
 intro l
 induction l with
 | nil=>intro rs i _ _;rfl
 | cons o l ih =>
  intro rs i h hs
  cases rs with
  | nil=>exact h.elim
  | cons r rs =>
   simp only [staticOK,Bool.and_eq_true] at hs
   simp only [List.zip_cons_cons,drawOK,Bool.and_eq_true]
   exact ⟨freeS_free h.1 h.2 hs.1,ih h.2 hs.2⟩
theorem stepD_run {base:Nat} {o:AOper} {e:Env} {h h':Heap} {v:AV} (hs:stepF A true (base+o.slot) o.op e h=some (v,h')):∃ r,stepRun (Acall A) (isPure A) base o e h=some (v,h',r)∧recOK (base+o.slot) (cls o.op) r:=by
 by_cases ho:∃ f args,o.op = .call f args
 ·obtain ⟨f,args,ho⟩:=ho
  rw [stepRun_call ho,ho]
  rw [ho] at hs
  simp only [stepF,Bool.not_true,Bool.false_or] at hs
  split at hs
  ·rename_i g first caps hev
   split at hs
   ·rename_i hp
    simp only [Ccall,Option.map_eq_some_iff] at hs
    obtain ⟨⟨v',h1,w⟩,hc,hq⟩:=hs
    simp only [Prod.mk.injEq] at hq
    obtain ⟨rfl,rfl⟩:=hq
    exact ⟨.hc [] [],by simp only [hev,hc,hp,if_true],fun _=>⟨rfl,rfl⟩,fun _=>rfl,fun q=>by cases q⟩
   ·cases hs
  ·cases hs
 ·have ho:∀ f args,o.op ≠ .call f args:=fun f args q=>ho ⟨f,args,q⟩
  rw [stepRun_other ho]
  have he:stepF A true (base+o.slot) o.op e h=(aop (base+o.slot) e o.op).run (base+o.slot) h:=by
   generalize o.op=op at ho
   cases op<;>first|rfl|exact (ho _ _ rfl).elim
  rw [he] at hs
  have hc:isCall o.op=false:=by
   generalize o.op=op at ho
   cases op<;>first|rfl|exact (ho _ _ rfl).elim
  exact ⟨_,by rw [hs],cls_rec hc hs⟩
theorem stepsD_run {base:Nat}:∀ {l:List AOper} {e e':Env} {h h':Heap},stepsF nt (stepF A true) base l e h=some (e',h')→∃ rs,asteps (Acall A) (isPure A) nt base l e h=some (e',h',rs)∧RecsOK base l rs:=by
 intro l
 induction l with
 | nil=>intro e e' h h' hs;cases hs;exact ⟨[],rfl,trivial⟩
 | cons o t ih =>
  intro e e' h h' hs
  obtain ⟨d,op,g,sl,dp⟩:=o
  simp only [stepsF,guardF_wanted,putF_put] at hs
  simp only [asteps,astep]
  cases hw:wanted e g with
  | none=>rw [hw] at hs;cases hs
  | some b =>
   rw [hw] at hs
   cases b with
   | true =>
    simp only [andF] at hs
    split at hs
    ·rename_i v h1 hst
     obtain ⟨r,hr1,hr2⟩:=stepD_run (o:=⟨d,op,g,sl,dp⟩) hst
     simp only [Option.bind_eq_some_iff] at hs
     obtain ⟨e1,he,hs⟩:=hs
     obtain ⟨rs,hr,hrs⟩:=ih hs
     exact ⟨r :: rs,by simp only [hr1,he,Option.map_some,hr],hr2,hrs⟩
    ·cases hs
   | false =>
    simp only [andF,Option.bind_eq_some_iff] at hs
    obtain ⟨e1,he,hs⟩:=hs
    obtain ⟨rs,hr,hrs⟩:=ih hs
    exact ⟨.no :: rs,by simp only [he,Option.map_some,hr],trivial,hrs⟩
theorem Brun_static {ops:List AOper} (hs:staticOK 0 ops=true) {keep:List Nat} {n:Nat} {e:Env} {h:Heap} {r:Ex × Env × Heap} (hr:bkeep keep (stepsF nt (stepF A true) h.length ops e (h ++ List.replicate n .free))=some r) :
  Brun A nt (.region true ops keep n) e h=some r:=by
 unfold bkeep at hr
 split at hr
 ·rename_i e1 h1 hst
  cases hr
  obtain ⟨rs,h2,h3⟩:=stepsD_run hst
  exact Brun_drawn h2 (static_draw h3 hs)
 ·cases hr
theorem Brun_drawnS {ops:List AOper} (hs:staticOK 0 ops=true) {keep:List Nat} {n:Nat} {e:Env} {h:Heap} (hr:(bkeep keep (stepsF nt (stepF A true) h.length ops e (h ++ List.replicate n .free))).isSome=true) :
  Brun A nt (.region true ops keep n) e h=bkeep keep (stepsF nt (stepF A true) h.length ops e (h ++ List.replicate n .free)):=by
 obtain ⟨r,hr⟩:=Option.isSome_iff_exists.1 hr
 rw [Brun_static hs hr,hr]
def banswer (res:List ARes) (r:Option (Ex × Env × Heap)):Option (AV × Heap) :=
 match r with
 | some (.exit _,_,_)=>none
 | some (_,e,h)=>match aresults e h res with
  | some v=>some (v,h)
  | none=>none
 | none=>none
noncomputable def bown (res:List ARes) (r:Option (Ex × Env × Heap)):Option AV :=
 match banswer res r with
 | some (v,h)=>Areify h v
 | none=>none
theorem Abody_B {f:AFn} {args:List AV} {h:Heap}:(Abody A f args h).map (fun r=>(r.1,r.2.1))=banswer f.res (Brun A f.nt f.body (ofL (args.zipIdx.map fun p=>(p.2,p.1))) h):=by
 unfold Abody Brun
 rw [args_env]
 cases Arun A f.nt f.body ⟨ofL (args.zipIdx.map fun p=>(p.2,p.1)),h,[]⟩ with
 | none=>rfl
 | some x =>
  obtain ⟨ex,s⟩:=x
  cases ex with
  | exit i=>rfl
  | normal=>simp only [Option.map_map,Option.map_some,banswer];cases aresults s.env s.heap f.res<;>rfl
  | ret=>simp only [Option.map_map,Option.map_some,banswer];cases aresults s.env s.heap f.res<;>rfl
theorem Ccall_own {g np nt mode:Nat} {res:List ARes} {c:ACode} {args:List AV} {h:Heap} {v:AV} (hf:A g=some ⟨np,nt,res,c,mode,none⟩) (hp:(mode != 0 && mode != 3)=true) (hn:args.length=np) (hi:imm.immL args=true)
  (hb:bown res (Brun A nt c (ofL ((strip.stripL args).zipIdx.map fun p=>(p.2,p.1))) [])=some v) :
  Ccall A g args h=some (v,h):=by
 unfold bown at hb
 rw [← Abody_B (f:=⟨np,nt,res,c,mode,none⟩)] at hb
 cases hx:Abody A ⟨np,nt,res,c,mode,none⟩ (strip.stripL args) [] with
 | none=>rw [hx] at hb;cases hb
 | some r =>
  obtain ⟨u,h',w⟩:=r
  rw [hx] at hb
  simp only [Bool.and_eq_true] at hp
  simp only [Ccall,Acall_pure hf rfl hp.1 (by simpa using hp.2) hn hi hx hb,Option.map_some]
theorem Ccall_ext {g np mode:Nat} {F:List AV→Option AV} {args:List AV} {h:Heap} {v:AV} {nt:Nat} {res:List ARes} {c:ACode} (hf:A g=some ⟨np,nt,res,c,mode,some F⟩) (hp:(mode != 0 && mode != 3)=true) (hn:args.length=np) (hi:imm.immL args=true)
  (hb:F (strip.stripL args)=some v):Ccall A g args h=some (v,h):=by
 simp only [Bool.and_eq_true] at hp
 simp only [Ccall,Acall_ext hf rfl hp.1 (by simpa using hp.2) hn hi hb,Option.map_some]
theorem Ccall_clone {g np nt:Nat} {res:List ARes} {c:ACode} {rows:List (List AV)} {cap:Cap} {args:List AV} {h:Heap} {v:AV} (hf:A g=some ⟨np,nt,res,c,3,none⟩) (hn:(AV.is rows cap :: args).length=np) (hi:imm.immL args=true)
  (h1:rows≠[]→bown res (Brun A nt c (ofL ((AV.is rows .no :: strip.stripL args).zipIdx.map fun p=>(p.2,p.1))) [])=some v)
  (h2:rows=[]→v = .is [] .no∧(∃ c1,bown res (Brun A nt c (ofL ((AV.is [] .nil :: strip.stripL args).zipIdx.map fun p=>(p.2,p.1))) [])=some (.is [] c1)) ∧
   ∃ c2,bown res (Brun A nt c (ofL ((AV.is [] .nn :: strip.stripL args).zipIdx.map fun p=>(p.2,p.1))) [])=some (.is [] c2)) :
  Ccall A g (.is rows cap :: args) h=some (v,h):=by
 have take:∀ {l:List AV} {v:AV},bown res (Brun A nt c (ofL (l.zipIdx.map fun p=>(p.2,p.1))) [])=some v→∃ u h' w,Abody A ⟨np,nt,res,c,3,none⟩ l []=some (u,h',w)∧Areify h' u=some v:=fun {l v} hb=>by
  unfold bown at hb
  rw [← Abody_B (f:=⟨np,nt,res,c,3,none⟩)] at hb
  cases hx:Abody A ⟨np,nt,res,c,3,none⟩ l [] with
  | none=>rw [hx] at hb;cases hb
  | some r =>
   obtain ⟨u,h',w⟩:=r
   rw [hx] at hb
   exact ⟨u,h',w,rfl,hb⟩
 have hi':imm.immL (.is rows cap :: args)=true:=by simpa [imm.immL,imm] using hi
 cases rows with
 | nil =>
  obtain ⟨rfl,⟨c1,e1⟩,⟨c2,e2⟩⟩:=h2 rfl
  obtain ⟨u1,g1,w1,a1,b1⟩:=take e1
  obtain ⟨u2,g2,w2,a2,b2⟩:=take e2
  simp only [Ccall,Acall_none hf rfl rfl hn hi' rfl a1 b1 a2 b2 rfl,Option.map_some]
 | cons r t =>
  obtain ⟨u,h',w,a1,b1⟩:=take (h1 (by simp))
  simp only [Ccall,Acall_some hf rfl rfl hn hi' rfl a1 b1,Option.map_some]
theorem Ccall_over {g np nt mode:Nat} {res:List ARes} {c:ACode} {args:List AV} {h h':Heap} {v:AV} (hf:A g=some ⟨np,nt,res,c,mode,none⟩) (hp:(mode != 0 && imm.immL args)=false) (hp2:(mode == 2)=false) (hn:args.length=np)
  (hb:banswer res (Brun A nt c (ofL (args.zipIdx.map fun p=>(p.2,p.1))) h)=some (v,h')):Ccall A g args h=some (v,h'):=by
 rw [← Abody_B (f:=⟨np,nt,res,c,mode,none⟩)] at hb
 simp only [Option.map_eq_some_iff] at hb
 obtain ⟨⟨u,h1,w⟩,hx,hq⟩:=hb
 simp only [Prod.mk.injEq] at hq
 obtain ⟨rfl,rfl⟩:=hq
 simp only [Ccall,Acall_over hf hp hp2 hn hx,Option.map_some]
end
noncomputable def AreifyL (h:Heap):List AV→Option (List AV)
 | []=>some []
 | x :: r=>match Areify h x with
  | some y=>match AreifyL h r with
   | some l=>some (y :: l)
   | none=>none
  | none=>none
theorem AreifyL_iff {h:Heap}:∀ {l m:List AV},AreifyL h l=some m↔∃ k,l.mapM (reify h k)=some m:=by
 intro l
 induction l with
 | nil=>intro m;simp [AreifyL]
 | cons x r ih =>
  intro m
  simp only [AreifyL,List.mapM_cons,Option.bind_eq_bind,Option.bind_eq_some_iff,Option.pure_def,Option.some.injEq]
  constructor
  ·intro hm
   split at hm
   ·rename_i y hy
    split at hm
    ·rename_i l hl
     cases hm
     obtain ⟨k1,g1⟩:=Areify_iff.1 hy
     obtain ⟨k2,g2⟩:=ih.1 hl
     exact ⟨max k1 k2,y,reify_mono (Nat.le_max_left _ _) g1,l,mapM_mono (fun x y hxy=>reify_mono (Nat.le_max_right k1 k2) hxy) g2,rfl⟩
    ·cases hm
   ·cases hm
  ·rintro ⟨k,y,hy,l,hl,rfl⟩
   rw [Areify_iff.2 ⟨k,hy⟩,ih.2 ⟨k,hl⟩]
theorem Areify_int {h:Heap} {k:IntKind} {n:Int}:Areify h (.int k n)=some (.int k n):=Areify_iff.2 ⟨1,rfl⟩
theorem Areify_bool {h:Heap} {b:Bool}:Areify h (.bool b)=some (.bool b):=Areify_iff.2 ⟨1,rfl⟩
theorem Areify_str {h:Heap} {s:List UInt8}:Areify h (.str s)=some (.str s):=Areify_iff.2 ⟨1,rfl⟩
theorem Areify_is {h:Heap} {rows:List (List AV)} {c:Cap}:Areify h (.is rows c)=some (.is rows .no):=Areify_iff.2 ⟨1,rfl⟩
theorem Areify_nilp {h:Heap}:Areify h .nilp=some .nilp:=Areify_iff.2 ⟨1,rfl⟩
theorem Areify_agg {h:Heap} {cs:List AV}:Areify h (.agg cs)=(AreifyL h cs).map .agg:=by
 apply Option.ext
 intro r
 simp only [Areify_iff,Option.map_eq_some_iff,AreifyL_iff]
 constructor
 ·rintro ⟨k,hk⟩
  match k,hk with
  | k+1,hk =>
   simp only [reify,Option.map_eq_some_iff] at hk
   obtain ⟨l,hl,rfl⟩:=hk
   exact ⟨l,⟨k,hl⟩,rfl⟩
 ·rintro ⟨l,⟨k,hk⟩,rfl⟩
  exact ⟨k+1,by simp only [reify,hk,Option.map_some]⟩
theorem Areify_tup {h:Heap} {cs:List AV}:Areify h (.tup cs)=(AreifyL h cs).map .tup:=by
 apply Option.ext
 intro r
 simp only [Areify_iff,Option.map_eq_some_iff,AreifyL_iff]
 constructor
 ·rintro ⟨k,hk⟩
  match k,hk with
  | k+1,hk =>
   simp only [reify,Option.map_eq_some_iff] at hk
   obtain ⟨l,hl,rfl⟩:=hk
   exact ⟨l,⟨k,hl⟩,rfl⟩
 ·rintro ⟨l,⟨k,hk⟩,rfl⟩
  exact ⟨k+1,by simp only [reify,hk,Option.map_some]⟩
theorem Acall_grow {A:Tab}:CallGrow (Acall A):=by
 intro g args h v h' w q j hj b
 obtain ⟨k,hk⟩:=Acall_iff.1 q
 obtain ⟨g1,g2,g3⟩:=acall_grow A k g args h v h' w hk j hj b
 exact ⟨Acall_iff.2 ⟨k,g1⟩,g2,g3⟩
theorem Acall_beside {A:Tab} {g:Nat} {args:List AV} {h G:Heap} {v:AV} {w:List Nat} {j:Nat} {b:Blk} (hj:h[j]?=some b) (q:Acall A g args (h.set j .free)=some (v,G,w)) :
  Acall A g args h=some (v,G.set j b,w)∧w.contains j=false∧G[j]?=some .free:=by
 have hlt:=(List.getElem?_eq_some_iff.1 hj).1
 have hf:(h.set j Blk.free)[j]?=some .free:=by rw [List.getElem?_set,if_pos rfl,if_pos hlt]
 obtain ⟨g1,g2,g3⟩:=Acall_grow g args _ v G w q j hf b
 have e:(h.set j Blk.free).set j b=h:=by
  rw [List.set_set]
  apply List.ext_getElem?
  intro i
  rw [List.getElem?_set]
  split
  ·rename_i e;subst e;exact hj.symm
  ·rfl
 rw [e] at g1
 exact ⟨g1,by simpa using g3,g2⟩
end Go.AM
