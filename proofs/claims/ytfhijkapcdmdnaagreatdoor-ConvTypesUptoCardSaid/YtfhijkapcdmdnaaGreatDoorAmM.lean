/- The abstract machine: operations that get in nobody's way may change places. -/
import Derived.Test.YtfhijkapcdmdnaaGreatDoorAmL
namespace Go.AM
theorem ev_congr {env env':Env} {x:AO} (h:∀ t ∈ x.tmps,env t=env' t):ev env x=ev env' x:=by
 cases x with
 | t n=>exact h n (by simp [AO.tmps])
 | c v=>rfl
theorem evL_congr {env env':Env}:∀ {l:List AO},(∀ t ∈ l.flatMap AO.tmps,env t=env' t)→l.map (ev env)=l.map (ev env'):=by
 intro l
 induction l with
 | nil=>intro _;rfl
 | cons x r ih =>
  intro h
  simp only [List.flatMap_cons,List.mem_append] at h
  rw [List.map_cons,List.map_cons,ev_congr fun t ht=>h t (.inl ht),ih fun t ht=>h t (.inr ht)]
theorem fillp_congr {env env':Env}:∀ {ps:List (Nat × Nat × AO)},(∀ t ∈ pTmps ps,env t=env' t)→∀ cs,fillp env cs ps=fillp env' cs ps:=by
 intro ps
 induction ps with
 | nil=>intro _ cs;rfl
 | cons p r ih =>
  intro h cs
  obtain ⟨off,size,x⟩:=p
  simp only [pTmps,List.flatMap_cons,List.mem_append] at h
  simp only [fillp]
  rw [ev_congr fun t ht=>h t (.inl ht)]
  split
  ·rfl
  ·split
   ·exact ih (fun t ht=>h t (.inr ht)) _
   ·rfl
theorem obound_congr {env env':Env} {x:Option AO} (h:∀ t ∈ oTmps x,env t=env' t) (y d:Nat):obound env y d x=obound env' y d x:=by
 cases x with
 | none=>rfl
 | some x=>simp only [obound];rw [ev_congr h]
theorem aslice_congr {env env':Env} {lo hi mx:Option AO} (h1:∀ t ∈ oTmps lo,env t=env' t) (h2:∀ t ∈ oTmps hi,env t=env' t) (h3:∀ t ∈ oTmps mx,env t=env' t) (sz:Nat) (x:AV):aslice env sz x lo hi mx=aslice env' sz x lo hi mx:=by
 unfold aslice
 simp only [obound_congr h1,obound_congr h2,obound_congr h3]
theorem aop_congr {env env':Env} {op:AOp} (h:∀ t ∈ op.tmps,env t=env' t) (slot:Nat):aop slot env op=aop slot env' op:=by
 cases op<;>simp only [AOp.tmps,List.mem_append] at h<;>simp only [aop]
 case pick c a b=>rw [ev_congr fun t ht=>h t (.inl (.inl ht)),ev_congr fun t ht=>h t (.inl (.inr ht)),ev_congr fun t ht=>h t (.inr ht)]
 case build z ps=>rw [fillp_congr h]
 case buildSlice vl sz len z ps=>rw [fillp_congr h]
 case fn f first caps=>rw [evL_congr fun t ht=>h t (.inl ht),evL_congr fun t ht=>h t (.inr ht)]
 case mapUpdate kg ks c a b=>rw [ev_congr fun t ht=>h t (.inl (.inl ht)),ev_congr fun t ht=>h t (.inl (.inr ht)),ev_congr fun t ht=>h t (.inr ht)]
 case ext k args=>rw [evL_congr fun t ht=>h t ht]
 case slice sz x lo hi mx =>
  rw [ev_congr fun t ht=>h t (.inl (.inl (.inl ht))),aslice_congr (fun t ht=>h t (.inl (.inl (.inr ht)))) (fun t ht=>h t (.inl (.inr ht))) (fun t ht=>h t (.inr ht))]
 case strSlice x lo hi =>
  rw [ev_congr fun t ht=>h t (.inl (.inl ht))]
  simp only [obound_congr fun t ht=>h t (.inl (.inr ht)),obound_congr fun t ht=>h t (.inr ht)]
 all_goals first
  | rfl
  | (rw [ev_congr h];done)
  | (rw [ev_congr fun t ht=>h t (.inl ht),ev_congr fun t ht=>h t (.inr ht)];done)
  | (simp only [ev_congr fun t ht=>h t (.inl ht),ev_congr fun t ht=>h t (.inr ht)];done)
  | skip
theorem HC.local (slot:Nat):∀ (c:HC) (h:Heap) (v:AV) (h':Heap),c.run slot h=some (v,h') →
  (∀ b,b ∉ c.wrs slot h→h'[b]?=h[b]?)∧(∀ b ∈ c.rds slot h,b<h.length) ∧
  ∀ h2:Heap,(∀ b,b ∈ c.rds slot h∨b ∈ c.wrs slot h→h2[b]?=h[b]?) →
   ∃ h2',c.run slot h2=some (v,h2')∧c.rds slot h2=c.rds slot h∧c.wrs slot h2=c.wrs slot h∧(∀ b ∈ c.wrs slot h,h2'[b]?=h'[b]?)∧(∀ b,b ∉ c.wrs slot h→h2'[b]?=h2[b]?):=by
 intro c
 induction c with
 | fail=>intro h v h' hr;cases hr
 | done u =>
  intro h v h' hr
  cases run_done hr
  exact ⟨fun _ _=>rfl,fun b hb=>by simp [HC.rds] at hb,fun h2 _=>⟨h2,rfl,rfl,rfl,fun b hb=>by simp [HC.wrs] at hb,fun _ _=>rfl⟩⟩
 | rd id k ih =>
  intro h v h' hr
  obtain ⟨b0,hb,hf,hk⟩:=run_rd hr
  have e1:(HC.rd id k).rds slot h=id :: (k b0).rds slot h:=by simp [HC.rds,hb]
  have e2:(HC.rd id k).wrs slot h=(k b0).wrs slot h:=by simp [HC.wrs,hb]
  obtain ⟨g1,g2,g3⟩:=ih b0 h v h' hk
  rw [e1,e2]
  refine ⟨g1,fun b hb'=>?_,fun h2 hh=>?_⟩
  ·rcases List.mem_cons.1 hb' with rfl|hb'
   ·exact set_lt hb
   ·exact g2 b hb'
  ·have hb2:h2[id]?=some b0:=by rw [hh id (.inl (List.mem_cons_self ..))];exact hb
   obtain ⟨h2',q1,q2,q3,q4,q5⟩:=g3 h2 fun b hb'=>hh b (hb'.imp (List.mem_cons_of_mem _) fun q=>q)
   exact ⟨h2',by simp [HC.run,hb2,hf,q1],by simp [HC.rds,hb2,q2],by simp [HC.wrs,hb2,q3],q4,q5⟩
 | wr id b k ih =>
  intro h v h' hr
  obtain ⟨b0,hb,hf,hk⟩:=run_wr hr
  obtain ⟨g1,g2,g3⟩:=ih (h.set id b) v h' hk
  have hid:=set_lt hb
  simp only [HC.rds,HC.wrs]
  refine ⟨fun c hc=>?_,fun c hc=>by have:=g2 c hc;simpa using this,fun h2 hh=>?_⟩
  ·rw [g1 c fun q=>hc (List.mem_cons_of_mem _ q),List.getElem?_set_ne fun q=>hc (by rw [q];exact List.mem_cons_self ..)]
  ·have hb2:h2[id]?=some b0:=by rw [hh id (.inr (List.mem_cons_self ..))];exact hb
   have hid2:=set_lt hb2
   have agree:∀ c,c ∈ k.rds slot (h.set id b)∨c ∈ k.wrs slot (h.set id b)→(h2.set id b)[c]?=(h.set id b)[c]?:=fun c hc=>by
    by_cases q:id=c
    ·subst q;rw [List.getElem?_set_self hid2,List.getElem?_set_self hid]
    ·rw [List.getElem?_set_ne q,List.getElem?_set_ne q]
     exact hh c (hc.imp (fun q=>q) (List.mem_cons_of_mem _))
   obtain ⟨h2',q1,q2,q3,q4,q5⟩:=g3 (h2.set id b) agree
   refine ⟨h2',by simp [HC.run,hb2,hf,q1],q2,by rw [q3],fun c hc=>?_,fun c hc=>?_⟩
   ·by_cases hcw:c ∈ k.wrs slot (h.set id b)
    ·exact q4 c hcw
    ·rcases List.mem_cons.1 hc with rfl|hc
     ·rw [q5 c hcw,g1 c hcw,List.getElem?_set_self hid2,List.getElem?_set_self hid]
     ·exact absurd hc hcw
   ·rw [q5 c fun q=>hc (List.mem_cons_of_mem _ q),List.getElem?_set_ne fun q=>hc (by rw [q];exact List.mem_cons_self ..)]
 | new b k ih =>
  intro h v h' hr
  obtain ⟨b0,hb,hf,hk⟩:=run_new hr
  obtain ⟨g1,g2,g3⟩:=ih (h.set slot b) v h' hk
  have hid:=set_lt hb
  simp only [HC.rds,HC.wrs]
  refine ⟨fun c hc=>?_,fun c hc=>by have:=g2 c hc;simpa using this,fun h2 hh=>?_⟩
  ·rw [g1 c fun q=>hc (List.mem_cons_of_mem _ q),List.getElem?_set_ne fun q=>hc (by rw [q];exact List.mem_cons_self ..)]
  ·have hb2:h2[slot]?=some b0:=by rw [hh slot (.inr (List.mem_cons_self ..))];exact hb
   have hid2:=set_lt hb2
   have agree:∀ c,c ∈ k.rds slot (h.set slot b)∨c ∈ k.wrs slot (h.set slot b)→(h2.set slot b)[c]?=(h.set slot b)[c]?:=fun c hc=>by
    by_cases q:slot=c
    ·subst q;rw [List.getElem?_set_self hid2,List.getElem?_set_self hid]
    ·rw [List.getElem?_set_ne q,List.getElem?_set_ne q]
     exact hh c (hc.imp (fun q=>q) (List.mem_cons_of_mem _))
   obtain ⟨h2',q1,q2,q3,q4,q5⟩:=g3 (h2.set slot b) agree
   refine ⟨h2',by simp [HC.run,hb2,hf,q1],q2,by rw [q3],fun c hc=>?_,fun c hc=>?_⟩
   ·by_cases hcw:c ∈ k.wrs slot (h.set slot b)
    ·exact q4 c hcw
    ·rcases List.mem_cons.1 hc with rfl|hc
     ·rw [q5 c hcw,g1 c hcw,List.getElem?_set_self hid2,List.getElem?_set_self hid]
     ·exact absurd hc hcw
   ·rw [q5 c fun q=>hc (List.mem_cons_of_mem _ q),List.getElem?_set_ne fun q=>hc (by rw [q];exact List.mem_cons_self ..)]
section
variable {cf:CallF} {pu:PureF} {nt base:Nat}
def HStep (cf:CallF) (pu:PureF) (base:Nat) (o:AOper) (env:Env) (h:Heap) (v:AV) (h':Heap) (r:Rec):Prop :=
 (wanted env o.guard=some false∧v = .tup []∧h'=h∧r = .no)∨(wanted env o.guard=some true∧stepRun cf pu base o env h=some (v,h',r))
theorem astep_iff {o:AOper} {env env':Env} {h h':Heap} {r:Rec}:astep cf pu nt base o env h=some (env',h',r)↔∃ v,HStep cf pu base o env h v h' r∧put nt env o.dst v=some env':=by
 unfold astep HStep
 constructor
 ·intro hs
  split at hs
  ·cases hs
  ·rename_i hw
   simp only [Option.map_eq_some_iff] at hs
   obtain ⟨e,he,hq⟩:=hs
   cases hq
   exact ⟨.tup [],.inl ⟨hw,rfl,rfl,rfl⟩,he⟩
  ·rename_i hw
   split at hs
   ·cases hs
   ·rename_i v h1 r1 hrun
    simp only [Option.map_eq_some_iff] at hs
    obtain ⟨e,he,hq⟩:=hs
    cases hq
    exact ⟨v,.inr ⟨hw,hrun⟩,he⟩
 ·rintro ⟨v,⟨hw,rfl,rfl,rfl⟩|⟨hw,hrun⟩,hp⟩
  ·simp only [hw,hp,Option.map_some]
  ·simp only [hw,hrun,hp,Option.map_some]
theorem hstep_congr {o:AOper} {env env':Env} (he:∀ t ∈ o.looks,env t=env' t) {h h':Heap} {v:AV} {r:Rec} (hs:HStep cf pu base o env h v h' r):HStep cf pu base o env' h v h' r:=by
 have hw:wanted env' o.guard=wanted env o.guard:=by
  cases hg:o.guard with
  | none=>rfl
  | some g =>
   obtain ⟨t,b⟩:=g
   have:=he t (by simp [AOper.looks,hg])
   simp only [wanted,this]
 have hop:∀ t ∈ o.op.tmps,env t=env' t:=fun t ht=>he t (by simp [AOper.looks,ht])
 have hr:stepRun cf pu base o env' h=stepRun cf pu base o env h:=by
  unfold stepRun
  split
  ·rename_i f args hq
   rw [hq] at hop
   simp only [AOp.tmps,List.mem_append] at hop
   simp only [ev_congr fun t ht=>hop t (.inl ht),evL_congr fun t ht=>hop t (.inr ht)]
  ·rw [aop_congr hop]
 unfold HStep at hs ⊢
 rw [hw,hr]
 exact hs
theorem hstep_local (hm:CallMem cf pu) {o:AOper} {env:Env} {h h':Heap} {v:AV} {rd wr:List Nat} (hs:HStep cf pu base o env h v h' (.hc rd wr)) :
  (∀ b,b ∉ wr→h'[b]?=h[b]?)∧(∀ b ∈ rd,b<h.length)∧∀ h2:Heap,(∀ b,b ∈ rd∨b ∈ wr→h2[b]?=h[b]?) →
   ∃ h2',HStep cf pu base o env h2 v h2' (.hc rd wr)∧(∀ b ∈ wr,h2'[b]?=h'[b]?)∧(∀ b,b ∉ wr→h2'[b]?=h2[b]?):=by
 rcases hs with ⟨_,_,_,hq⟩|⟨hw,hrun⟩
 ·cases hq
 ·unfold stepRun at hrun
  split at hrun
  ·rename_i f args hcall
   split at hrun
   ·rename_i g first caps hf
    split at hrun
    ·rename_i v0 h0 w0 hcf
     simp only [Option.some.injEq,Prod.mk.injEq] at hrun
     obtain ⟨rfl,rfl,hq⟩:=hrun
     split at hq
     ·rename_i hpu
      cases hq
      obtain ⟨rfl,hall⟩:=hm.pure _ _ _ _ _ _ hpu hcf
      refine ⟨fun _ _=>rfl,fun b hb=>by simp at hb,fun h2 _=>⟨h2,.inr ⟨hw,?_⟩,fun b hb=>by simp at hb,fun _ _=>rfl⟩⟩
      simp only [stepRun,hcall,hf,hall h2,hpu,if_true]
     ·cases hq
    ·cases hrun
   ·cases hrun
  ·rename_i hne
   split at hrun
   ·rename_i v0 h0 hr0
    cases hrun
    obtain ⟨g1,g2,g3⟩:=HC.local _ _ _ _ _ hr0
    refine ⟨g1,g2,fun h2 hh=>?_⟩
    obtain ⟨h2',q1,q2,q3,q4,q5⟩:=g3 h2 hh
    refine ⟨h2',.inr ⟨hw,?_⟩,q4,q5⟩
    unfold stepRun
    split
    ·rename_i f args hq;exact absurd hq (hne f args)
    ·rw [q1,q2,q3]
   ·cases hrun
theorem hstep_kc (hm:CallMem cf pu) {o:AOper} {env:Env} {h h':Heap} {v:AV} {n:Nat} {wr:List Nat} (hs:HStep cf pu base o env h v h' (.kc n wr)) :
  n=h.length∧h.length≤h'.length∧∀ b,b<h.length→b ∉ wr→h'[b]?=h[b]?:=by
 rcases hs with ⟨_,_,_,hq⟩|⟨hw,hrun⟩
 ·cases hq
 ·unfold stepRun at hrun
  split at hrun
  ·split at hrun
   ·split at hrun
    ·rename_i v0 h0 w0 hcf
     simp only [Option.some.injEq,Prod.mk.injEq] at hrun
     obtain ⟨rfl,rfl,hq⟩:=hrun
     split at hq
     ·cases hq
     ·cases hq
      exact ⟨rfl,hm.frame _ _ _ _ _ _ hcf⟩
    ·cases hrun
   ·cases hrun
  ·split at hrun
   ·cases hrun
   ·cases hrun
theorem list_ext {h h2:Heap} (e:∀ b:Nat,h[b]?=h2[b]?):h=h2:=List.ext_getElem? e
theorem disj_spec {a b:List Nat} (h:disj a b=true):∀ x ∈ a,x ∉ b:=by
 intro x hx hb
 have:=List.all_eq_true.1 h x hx
 simp [hb] at this
theorem hstep_swap (hm:CallMem cf pu) {x b:AOper} {env:Env} {h h1 h2:Heap} {vx vb:AV} {rx rb:Rec} (hx:HStep cf pu base x env h vx h1 rx) (hb:HStep cf pu base b env h1 vb h2 rb) (hi:rx.indep rb=true) :
  ∃ h1',HStep cf pu base b env h vb h1' rb∧HStep cf pu base x env h1' vx h2 rx:=by
 cases rx with
 | no =>
  rcases hx with ⟨hw,rfl,rfl,_⟩|⟨hw,hrun⟩
  ·exact ⟨h2,hb,.inl ⟨hw,rfl,rfl,rfl⟩⟩
  ·exfalso
   unfold stepRun at hrun
   split at hrun
   ·split at hrun
    ·split at hrun
     ·simp only [Option.some.injEq,Prod.mk.injEq] at hrun
      obtain ⟨_,_,hq⟩:=hrun
      split at hq<;>cases hq
     ·cases hrun
    ·cases hrun
   ·split at hrun<;>cases hrun
 | hc rd wr =>
  cases rb with
  | no =>
   rcases hb with ⟨hw,rfl,rfl,_⟩|⟨hw,hrun⟩
   ·exact ⟨h,.inl ⟨hw,rfl,rfl,rfl⟩,hx⟩
   ·exfalso
    unfold stepRun at hrun
    split at hrun
    ·split at hrun
     ·split at hrun
      ·simp only [Option.some.injEq,Prod.mk.injEq] at hrun
       obtain ⟨_,_,hq⟩:=hrun
       split at hq<;>cases hq
      ·cases hrun
     ·cases hrun
    ·split at hrun<;>cases hrun
  | hc rd' wr' =>
   simp only [Rec.indep,Bool.and_eq_true] at hi
   have d1:=disj_spec hi.1
   have d2:=disj_spec hi.2
   obtain ⟨x1,x2,x3⟩:=hstep_local hm hx
   obtain ⟨b1,b2,b3⟩:=hstep_local hm hb
   have n1:∀ c,c ∈ rd'∨c ∈ wr'→c ∉ wr:=fun c hc hw=>d1 c hw (List.mem_append.2 hc)
   obtain ⟨h1',q1,q2,q3⟩:=b3 h fun c hc=>(x1 c (n1 c hc)).symm
   obtain ⟨h2',p1,p2,p3⟩:=x3 h1' fun c hc=>q3 c fun hw=>hc.elim (fun hr=>d2 c hw hr) fun hr=>n1 c (.inr hw) hr
   refine ⟨h1',q1,?_⟩
   have:h2'=h2:=list_ext fun c=>by
    by_cases cw:c ∈ wr
    ·rw [p2 c cw,b1 c fun hw=>n1 c (.inr hw) cw]
    ·rw [p3 c cw]
     by_cases cw':c ∈ wr'
     ·exact q2 c cw'
     ·rw [q3 c cw',b1 c cw',x1 c cw]
   rw [← this];exact p1
  | kc n w' =>
   simp only [Rec.indep,Bool.and_eq_true] at hi
   obtain ⟨⟨hwe,hd⟩,hlt⟩:=hi
   have hwe:wr=[]:=by simpa using hwe
   subst hwe
   have d1:=disj_spec hd
   obtain ⟨x1,x2,x3⟩:=hstep_local hm hx
   have e1:h1=h:=list_ext fun c=>x1 c (by simp)
   subst e1
   obtain ⟨k1,k2,k3⟩:=hstep_kc hm hb
   obtain ⟨h2',p1,p2,p3⟩:=x3 h2 fun c hc=>by
    rcases hc with hc|hc
    ·exact k3 c (x2 c hc) (d1 c hc)
    ·simp at hc
   have e2:h2'=h2:=list_ext fun c=>p3 c (by simp)
   exact ⟨h2,hb,e2 ▸ p1⟩
 | kc n w' =>
  cases rb with
  | no =>
   rcases hb with ⟨hw,rfl,rfl,_⟩|⟨hw,hrun⟩
   ·exact ⟨h,.inl ⟨hw,rfl,rfl,rfl⟩,hx⟩
   ·exfalso
    unfold stepRun at hrun
    split at hrun
    ·split at hrun
     ·split at hrun
      ·simp only [Option.some.injEq,Prod.mk.injEq] at hrun
       obtain ⟨_,_,hq⟩:=hrun
       split at hq<;>cases hq
      ·cases hrun
     ·cases hrun
    ·split at hrun<;>cases hrun
  | hc rd wr =>
   simp only [Rec.indep,Bool.and_eq_true] at hi
   obtain ⟨⟨hwe,hd⟩,hlt⟩:=hi
   have hwe:wr=[]:=by simpa using hwe
   subst hwe
   have d1:=disj_spec hd
   obtain ⟨k1,k2,k3⟩:=hstep_kc hm hx
   obtain ⟨b1,b2,b3⟩:=hstep_local hm hb
   have e1:h2=h1:=list_ext fun c=>b1 c (by simp)
   subst e1
   obtain ⟨h1',q1,q2,q3⟩:=b3 h fun c hc=>by
    rcases hc with hc|hc
    ·have:=List.all_eq_true.1 hlt c hc
     simp only [decide_eq_true_eq] at this
     exact (k3 c (by omega) (d1 c hc)).symm
    ·simp at hc
   have e2:h1'=h:=list_ext fun c=>q3 c (by simp)
   subst e2
   exact ⟨h1',q1,hx⟩
  | kc n' w''=>simp [Rec.indep] at hi
theorem hstep_beside (hm:CallMem cf pu) {x b:AOper} {env:Env} {h h1 h2:Heap} {vx vb:AV} {rx rb:Rec} (hx:HStep cf pu base x env h vx h1 rx) (hb:HStep cf pu base b env h1 vb h2 rb) (hi:(rx.indep rb || fresh b rx rb)=true) :
  ∃ h1',HStep cf pu base b env h vb h1' rb∧HStep cf pu base x env h1' vx h2 rx:=by
 rcases Bool.or_eq_true _ _ |>.mp hi with hi|hi
 ·exact hstep_swap hm hx hb hi
 ·unfold fresh at hi
  split at hi
  ·rename_i zr n w k hop _
   simp only [Bool.and_eq_true,decide_eq_true_eq,Bool.not_eq_true'] at hi
   obtain ⟨hkn,hkw⟩:=hi
   obtain ⟨k1,k2,k3⟩:=hstep_kc hm hx
   have hkw':k ∉ w:=by
    intro q
    have:w.contains k=true:=by simpa using q
    rw [this] at hkw;cases hkw
   rcases hb with ⟨_,_,_,hq⟩|⟨hwb,hrun⟩
   ·cases hq
   ·unfold stepRun at hrun
    rw [hop] at hrun
    simp only [aop,Bool.false_eq_true,if_false,HC.run] at hrun
    cases hs:h1[base+b.slot]? with
    | none=>rw [hs] at hrun;cases hrun
    | some y =>
     rw [hs] at hrun
     simp only at hrun
     cases hf:y.isFree with
     | false=>rw [hf] at hrun;cases hrun
     | true =>
      rw [hf] at hrun
      simp only [if_true,Option.some.injEq,Prod.mk.injEq,HC.rds,HC.wrs,Rec.hc.injEq,List.cons.injEq,and_true,true_and] at hrun
      obtain ⟨rfl,rfl,hk⟩:=hrun
      subst hk
      have hy:y = .free:=by
       unfold Blk.isFree at hf
       split at hf
       ·rfl
       ·cases hf
      subst hy
      have hh:h[base+b.slot]?=some .free:=by rw [← k3 _ (by omega) hkw'];exact hs
      refine ⟨h.set (base+b.slot) (.cells zr),.inr ⟨hwb,?_⟩,?_⟩
      ·unfold stepRun
       rw [hop]
       simp only [aop,Bool.false_eq_true,if_false,HC.run,hh,Blk.isFree,if_true,HC.rds,HC.wrs]
      ·rcases hx with ⟨_,_,_,hq⟩|⟨hw,hrx⟩
       ·cases hq
       ·refine .inr ⟨hw,?_⟩
        unfold stepRun at hrx ⊢
        split at hrx
        ·rename_i f args hcall
         split at hrx
         ·rename_i g first caps hfn
          split at hrx
          ·rename_i v0 h0 w0 hcf
           simp only [Option.some.injEq,Prod.mk.injEq] at hrx
           obtain ⟨rfl,rfl,hq⟩:=hrx
           obtain ⟨g1,g2,g3⟩:=hm.grow _ _ _ _ _ _ hcf _ hh (.cells zr)
           simp only [g1,List.length_set,hq]
          ·cases hrx
         ·cases hrx
        ·split at hrx<;>cases hrx
  ·cases hi
theorem put_comm {x y:Option Nat} {e e1 e2:Env} {vx vy:AV} (hd:∀ d,x=some d→y≠some d) (h1:put nt e x vx=some e1) (h2:put nt e1 y vy=some e2) :
  ∃ e1',put nt e y vy=some e1'∧put nt e1' x vx=some e2:=by
 cases x with
 | none =>
  cases h1
  exact ⟨e2,h2,rfl⟩
 | some d =>
  simp only [put] at h1
  split at h1
  ·rename_i hdn
   cases h1
   cases y with
   | none =>
    cases h2
    exact ⟨e,rfl,by simp [put,hdn]⟩
   | some d' =>
    simp only [put] at h2
    split at h2
    ·rename_i hdn'
     cases h2
     have hne:d'≠d:=fun q=>hd d rfl (by rw [q])
     refine ⟨upd e d' vy,by simp [put,hdn'],?_⟩
     simp only [put,hdn,if_true,Option.some.injEq]
     funext t
     simp only [upd]
     by_cases c1:t=d
     ·subst c1
      rw [if_pos rfl,if_neg (fun q=>hne q.symm),if_pos rfl]
     ·rw [if_neg c1,if_neg c1]
    ·cases h2
  ·cases h1
theorem put_other {x:Option Nat} {e e1:Env} {v:AV} (hp:put nt e x v=some e1) {t:Nat} (ht:∀ d,x=some d→t≠d):e1 t=e t:=by
 cases x with
 | none=>cases hp;rfl
 | some d =>
  simp only [put] at hp
  split at hp
  ·cases hp
   simp only [upd,if_neg (ht d rfl)]
  ·cases hp
theorem apart_spec {x y:AOper} (h:apart x y=true):(∀ d,x.dst=some d→d ∉ y.looks∧y.dst≠some d)∧(∀ d,y.dst=some d→d ∉ x.looks):=by
 simp only [apart,Bool.and_eq_true] at h
 refine ⟨fun d hd=>?_,fun d hd=>?_⟩
 ·have:=h.1
  rw [hd] at this
  simp at this
  exact this
 ·have:=h.2
  rw [hd] at this
  simpa using this
theorem astep_swap (hm:CallMem cf pu) {x b:AOper} {e e1 e2:Env} {h h1 h2:Heap} {rx rb:Rec} (hx:astep cf pu nt base x e h=some (e1,h1,rx)) (hb:astep cf pu nt base b e1 h1=some (e2,h2,rb)) (hi:(rx.indep rb || fresh b rx rb)=true) (ha:apart x b=true) :
  ∃ e1' h1',astep cf pu nt base b e h=some (e1',h1',rb)∧astep cf pu nt base x e1' h1'=some (e2,h2,rx):=by
 obtain ⟨a1,a2⟩:=apart_spec ha
 obtain ⟨vx,sx,px⟩:=astep_iff.1 hx
 obtain ⟨vb,sb,pb⟩:=astep_iff.1 hb
 have sb':HStep cf pu base b e h1 vb h2 rb:=hstep_congr (fun t ht=>put_other px fun d hd q=>(a1 d hd).1 (q ▸ ht)) sb
 obtain ⟨h1',t1,t2⟩:=hstep_beside hm sx sb' hi
 obtain ⟨e1',p1,p2⟩:=put_comm (fun d hd=>(a1 d hd).2) px pb
 refine ⟨e1',h1',astep_iff.2 ⟨vb,t1,p1⟩,astep_iff.2 ⟨vx,hstep_congr (fun t ht=>(put_other p1 fun d hd q=>a2 d hd (q ▸ ht)).symm) t2,p2⟩⟩
inductive FR (cf:CallF) (pu:PureF) (nt base:Nat) (S:Nat→Bool):Nat→List (AOper × Rec)→Env→Heap→Env→Heap→Prop
 | nil (i:Nat) (e:Env) (h:Heap):FR cf pu nt base S i [] e h e h
 | on (i:Nat) (o:AOper) (r:Rec) (t:List (AOper × Rec)) (e:Env) (h:Heap) (e1:Env) (h1:Heap) (e2:Env) (h2:Heap) (hS:S i=true) (hs:astep cf pu nt base o e h=some (e1,h1,r))
   (ht:FR cf pu nt base S (i+1) t e1 h1 e2 h2):FR cf pu nt base S i ((o,r) :: t) e h e2 h2
 | off (i:Nat) (o:AOper) (r:Rec) (t:List (AOper × Rec)) (e:Env) (h:Heap) (e2:Env) (h2:Heap) (hS:S i=false) (ht:FR cf pu nt base S (i+1) t e h e2 h2):FR cf pu nt base S i ((o,r) :: t) e h e2 h2
theorem FR.congr {S S':Nat→Bool} {i:Nat} {t:List (AOper × Rec)} {e e2:Env} {h h2:Heap} (hf:FR cf pu nt base S i t e h e2 h2) (hS:∀ j,i≤j→S' j=S j):FR cf pu nt base S' i t e h e2 h2:=by
 induction hf with
 | nil i e h=>exact .nil i e h
 | on i o r t e h e1 h1 e2 h2 hq hs ht ih=>exact .on i o r t e h e1 h1 e2 h2 (by rw [hS i (Nat.le_refl _)];exact hq) hs (ih fun j hj=>hS j (by omega))
 | off i o r t e h e2 h2 hq ht ih=>exact .off i o r t e h e2 h2 (by rw [hS i (Nat.le_refl _)];exact hq) (ih fun j hj=>hS j (by omega))
theorem FR.det {S:Nat→Bool} {i:Nat} {t:List (AOper × Rec)} {e e2 e3:Env} {h h2 h3:Heap} (hf:FR cf pu nt base S i t e h e2 h2) (hg:FR cf pu nt base S i t e h e3 h3):e2=e3∧h2=h3:=by
 induction hf with
 | nil i e h=>cases hg;exact ⟨rfl,rfl⟩
 | on i o r t e h e1 h1 e2 h2 hq hs ht ih =>
  cases hg with
  | on _ _ _ _ _ _ e1' h1' _ _ _ hs' ht' =>
   rw [hs] at hs'
   cases hs'
   exact ih ht'
  | off _ _ _ _ _ _ _ _ hq' ht'=>rw [hq] at hq';cases hq'
 | off i o r t e h e2 h2 hq ht ih =>
  cases hg with
  | on _ _ _ _ _ _ e1' h1' _ _ hq' hs' ht'=>rw [hq] at hq';cases hq'
  | off _ _ _ _ _ _ _ _ hq' ht'=>exact ih ht'
theorem FR.pushEnd (hm:CallMem cf pu) {S:Nat→Bool} {x:AOper} {rx:Rec} {i:Nat} {t:List (AOper × Rec)} {e1 e2:Env} {h1 h2:Heap} (hf:FR cf pu nt base S i t e1 h1 e2 h2) :
  ∀ {e:Env} {h:Heap},astep cf pu nt base x e h=some (e1,h1,rx)→(∀ j o r,S (i+j)=true→t[j]?=some (o,r)→(rx.indep r || fresh o rx r)=true∧apart x o=true) →
   ∃ e' h',FR cf pu nt base S i t e h e' h'∧astep cf pu nt base x e' h'=some (e2,h2,rx):=by
 induction hf with
 | nil i e1 h1=>exact fun {e h} hx _=>⟨e,h,.nil i e h,hx⟩
 | on i o r t e1 h1 e3 h3 e2 h2 hq hs ht ih =>
  intro e h hx hall
  obtain ⟨i1,i2⟩:=hall 0 o r hq rfl
  obtain ⟨e1',h1',q1,q2⟩:=astep_swap hm hx hs i1 i2
  obtain ⟨e',h',g1,g2⟩:=ih q2 fun j o r hj hr=>hall (j+1) o r (by rw [← hj];congr 1;omega) (by simpa using hr)
  exact ⟨e',h',.on i o r t e h e1' h1' e' h' hq q1 g1,g2⟩
 | off i o r t e1 h1 e2 h2 hq ht ih =>
  intro e h hx hall
  obtain ⟨e',h',g1,g2⟩:=ih hx fun j o r hj hr=>hall (j+1) o r (by rw [← hj];congr 1;omega) (by simpa using hr)
  exact ⟨e',h',.off i o r t e h e' h' hq g1,g2⟩
theorem FR.remove (hm:CallMem cf pu) {S:Nat→Bool} {x:Nat} (hx:S x=true) {ox:AOper} {rx:Rec} {i:Nat} {t:List (AOper × Rec)} {e e2:Env} {h h2:Heap} (hf:FR cf pu nt base S i t e h e2 h2) (hi:i≤x) (ht:t[x - i]?=some (ox,rx))
  (hall:∀ j o r,x<j→S j=true→t[j - i]?=some (o,r)→(rx.indep r || fresh o rx r)=true∧apart ox o=true) :
  ∃ e' h',FR cf pu nt base (fun j=>S j && !(j == x)) i t e h e' h'∧astep cf pu nt base ox e' h'=some (e2,h2,rx):=by
 induction hf with
 | nil i e h=>simp at ht
 | on i o r t e h e1 h1 e2 h2 hq hs hr ih =>
  by_cases c:i=x
  ·subst c
   simp only [Nat.sub_self,List.getElem?_cons_zero,Option.some.injEq,Prod.mk.injEq] at ht
   obtain ⟨rfl,rfl⟩:=ht
   obtain ⟨e',h',g1,g2⟩:=hr.pushEnd hm hs fun j o' r' hj hr'=>hall (i+1+j) o' r' (by omega) hj (by rw [show i+1+j - i=j+1 by omega];simpa using hr')
   refine ⟨e',h',.off i o r t e h e' h' (by simp) (g1.congr fun j hj=>?_),g2⟩
   have:(j == i)=false:=by simp;omega
   simp [this]
  ·have e1':x - i=(x - (i+1))+1:=by omega
   rw [e1'] at ht
   obtain ⟨e',h',g1,g2⟩:=ih (by omega) (by simpa using ht) fun j o' r' hj hS hr'=>hall j o' r' hj hS (by rw [show j - i=(j - (i+1))+1 by omega];simpa using hr')
   have:(i == x)=false:=by simp;exact c
   exact ⟨e',h',.on i o r t e h e1 h1 e' h' (by simp [hq,this]) hs g1,g2⟩
 | off i o r t e h e2 h2 hq hr ih =>
  by_cases c:i=x
  ·subst c;rw [hx] at hq;cases hq
  ·have e1':x - i=(x - (i+1))+1:=by omega
   rw [e1'] at ht
   obtain ⟨e',h',g1,g2⟩:=ih (by omega) (by simpa using ht) fun j o' r' hj hS hr'=>hall j o' r' hj hS (by rw [show j - i=(j - (i+1))+1 by omega];simpa using hr')
   exact ⟨e',h',.off i o r t e h e' h' (by simp [hq]) g1,g2⟩
theorem FR.of_asteps:∀ {l:List AOper} {e e2:Env} {h h2:Heap} {rs:List Rec} (i:Nat),asteps cf pu nt base l e h=some (e2,h2,rs)→rs.length=l.length∧FR cf pu nt base (fun _=>true) i (l.zip rs) e h e2 h2:=by
 intro l
 induction l with
 | nil=>intro e e2 h h2 rs i hs;cases hs;exact ⟨rfl,.nil i e h⟩
 | cons o r ih =>
  intro e e2 h h2 rs i hs
  simp only [asteps] at hs
  split at hs
  ·cases hs
  ·rename_i e1 h1 r1 h0
   simp only [Option.map_eq_some_iff] at hs
   obtain ⟨⟨e3,h3,rs'⟩,h4,hq⟩:=hs
   cases hq
   obtain ⟨q1,q2⟩:=ih (i+1) h4
   exact ⟨by simp [q1],.on i o r1 _ e h e1 h1 _ _ rfl h0 q2⟩
theorem drawOK_spec:∀ {T:List (AOper × Rec)} {i:Nat},drawOK i T=true→∀ (x j:Nat) ox rx oj rj,T[x]?=some (ox,rx)→T[j]?=some (oj,rj)→x<j→oj.dep.testBit (i+x)=true∨((rx.indep rj || fresh oj rx rj)=true∧apart ox oj=true):=by
 intro T
 induction T with
 | nil=>intro i _ x j ox rx oj rj hx;simp at hx
 | cons p t ih =>
  intro i hd x j ox rx oj rj hx hj hlt
  obtain ⟨o,r⟩:=p
  simp only [drawOK,Bool.and_eq_true] at hd
  cases x with
  | zero =>
   simp only [List.getElem?_cons_zero,Option.some.injEq,Prod.mk.injEq] at hx
   obtain ⟨rfl,rfl⟩:=hx
   obtain ⟨j,rfl⟩:∃ k,j=k+1:=⟨j - 1,by omega⟩
   simp only [List.getElem?_cons_succ] at hj
   have key:∀ (u:List (AOper × Rec)),freeOf i o r u=true→∀ (j:Nat),u[j]?=some (oj,rj)→oj.dep.testBit i=true∨((r.indep rj || fresh oj r rj)=true∧apart o oj=true):=by
    intro u
    induction u with
    | nil=>intro _ j hj;simp at hj
    | cons q u ihu =>
     intro hu j hj
     obtain ⟨p,s⟩:=q
     simp only [freeOf,Bool.and_eq_true,Bool.or_eq_true] at hu
     cases j with
     | zero =>
      simp only [List.getElem?_cons_zero,Option.some.injEq,Prod.mk.injEq] at hj
      obtain ⟨rfl,rfl⟩:=hj
      exact hu.1.imp id fun q=>⟨by simpa using q.1,q.2⟩
     | succ j=>exact ihu hu.2 j (by simpa using hj)
   exact key t hd.1 j hj
  | succ x =>
   obtain ⟨j,rfl⟩:∃ k,j=k+1:=⟨j - 1,by omega⟩
   have:=ih hd.2 x j ox rx oj rj (by simpa using hx) (by simpa using hj) (by omega)
   rw [show i+(x+1)=i+1+x by omega]
   exact this
end
end Go.AM
