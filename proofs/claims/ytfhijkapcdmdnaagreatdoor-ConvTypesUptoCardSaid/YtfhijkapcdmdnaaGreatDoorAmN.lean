/- The abstract machine: regions. -/
import Derived.Test.YtfhijkapcdmdnaaGreatDoorAmM
namespace Go.AM
variable {G:GTab}
inductive OpsRel (P:Program) (G:GTab) (ops:Array Oper):List Oper→List AOper→Prop
 | nil:OpsRel P G ops [] []
 | cons {o:Oper} {ao:AOper} {l:List Oper} {m:List AOper} (h:OpRel P G ops o ao) (t:OpsRel P G ops l m):OpsRel P G ops (o :: l) (ao :: m)
theorem compOps_rel {P:Program} {vals:List Nat} {ops:Array Oper}:∀ {l:List Oper} {deps:List Nat} {n:Nat} {L:List AOper} {m:Nat},compOps P G vals ops l deps n=some (L,m)→OpsRel P G ops l L:=by
 intro l
 induction l with
 | nil=>intro deps n L m h;simp only [compOps,Option.some.injEq,Prod.mk.injEq] at h;rw [← h.1];exact .nil
 | cons o r ih =>
  intro deps n L m h
  simp only [compOps] at h
  split at h
  ·rename_i g h2
   split at h
   ·rename_i l' m' h3
    simp only [Option.some.injEq,Prod.mk.injEq] at h
    rw [← h.1]
    exact .cons ⟨rfl,⟨_,rfl⟩,h2⟩ (ih h3)
   ·cases h
  ·cases h
theorem OpsRel.get {P:Program} {ops:Array Oper}:∀ {l:List Oper} {L:List AOper},OpsRel P G ops l L→∀ (i:Nat) o,l[i]?=some o→∃ ao,L[i]?=some ao∧OpRel P G ops o ao:=by
 intro l L h
 induction h with
 | nil=>intro i o hi;simp at hi
 | @cons o ao l L h t ih =>
  intro i o' hi
  cases i with
  | zero=>simp at hi;subst hi;exact ⟨ao,rfl,h⟩
  | succ i=>simp at hi;obtain ⟨x,h1,h2⟩:=ih i o' hi;exact ⟨x,by simpa using h1,h2⟩
theorem OpsRel.len {P:Program} {ops:Array Oper} {l:List Oper} {L:List AOper} (h:OpsRel P G ops l L):L.length=l.length:=by
 induction h with
 | nil=>rfl
 | cons _ _ ih=>simp [ih]
theorem depOf_spec {deps:List Nat}:∀ {es:List Edge} {j:Nat},(depOf deps es).testBit j=true→∃ e ∈ es,Region.binds .any e=true∧(j=e.on∨(deps.getD e.on 0).testBit j=true):=by
 intro es
 induction es with
 | nil=>intro j h;simp [depOf] at h
 | cons e r ih =>
  intro j h
  simp only [depOf] at h
  split at h
  ·rename_i hb
   rw [Nat.testBit_or,Nat.testBit_or,Bool.or_eq_true,Bool.or_eq_true] at h
   rcases h with (h|h)|h
   ·obtain ⟨e',h1,h2,h3⟩:=ih h
    exact ⟨e',List.mem_cons_of_mem _ h1,h2,h3⟩
   ·refine ⟨e,List.mem_cons_self ..,hb,.inl ?_⟩
    rw [Nat.testBit_two_pow] at h
    have:e.on=j:=by simpa using h
    exact this.symm
   ·exact ⟨e,List.mem_cons_self ..,hb,.inr h⟩
  ·obtain ⟨e',h1,h2,h3⟩:=ih h
   exact ⟨e',List.mem_cons_of_mem _ h1,h2,h3⟩
theorem compOps_dep {P:Program} {vals:List Nat} {ops:Array Oper}:∀ {l:List Oper} {deps:List Nat} {n:Nat} {L:List AOper} {m:Nat},compOps P G vals ops l deps n=some (L,m) →
  ∀ (i:Nat) o ao,l[i]?=some o→L[i]?=some ao→ao.dep=depOf (deps ++ (L.take i).map (·.dep)) o.after.toList:=by
 intro l
 induction l with
 | nil=>intro deps n L m h i o ao hi;simp at hi
 | cons o r ih =>
  intro deps n L m h i o' ao hi hL
  simp only [compOps] at h
  split at h
  ·rename_i g h2
   split at h
   ·rename_i l' m' h3
    simp only [Option.some.injEq,Prod.mk.injEq] at h
    obtain ⟨rfl,_⟩:=h
    cases i with
    | zero =>
     simp at hi hL
     subst hi;subst hL
     simp
    | succ i =>
     simp at hi hL
     have:=ih h3 i o' ao hi hL
     rw [this]
     simp
   ·cases h
  ·cases h
section
variable {P:Program} {w:World} {phi:Phi} {im:Imm} {h:Heap} {env:Env} {cf:CallF} {pu:PureF} {nt base:Nat}
theorem asteps_sound (hcf:CallOK P G cf) {ops:Array Oper} {Q:Exit→Act→World→Prop}:∀ {l:List Oper} {L:List AOper},OpsRel P G ops l L→∀ {a:Act} {w:World} {phi:Phi} {im:Imm} {env env':Env} {h h':Heap} {rs:List Rec},
  asteps cf pu nt base L env h=some (env',h',rs)→ER G w phi im env a.tmps→a.tmps.size=nt→SR w phi im h→(∀ a' w',Next1 G w phi im nt a.defers env' h' a' w'→Q .normal a' w')→wpList P ops Q l a w:=by
 intro l L hrel
 induction hrel with
 | nil =>
  intro a w phi im env env' h h' rs hs e ht s hQ
  cases hs
  exact wpList_nil (hQ a w (.start e ht s))
 | @cons o ao l L hr t ih =>
  intro a w phi im env env' h h' rs hs e ht s hQ
  simp only [asteps] at hs
  split at hs
  ·cases hs
  ·rename_i e1 h1 r1 h0
   simp only [Option.map_eq_some_iff] at hs
   obtain ⟨⟨e3,h3,rs'⟩,h4,hq⟩:=hs
   cases hq
   refine wpList_step fun K hK=>?_
   refine astep_sound hcf hr h0 e ht s fun a1 w1 hn=>hK a1 w1 ?_
   obtain ⟨phi1,im1,x1,x2,x3,x4,x5⟩:=hn
   exact ih h4 x1 x2 x4 fun a2 w2 hn2=>hQ a2 w2 (.trans x5 (by rw [← x3];exact hn2))
def didOf (listed:Array Bool):Nat→Bool:=fun i=>listed.getD i true
theorem draw_sound (hcf:CallOK P G cf) (hm:CallMem cf pu) {ops:Array Oper} {Q:Exit→Act→World→Prop} {L:List AOper} {m:Nat} {vals:List Nat} (hc:compOps P G vals ops ops.toList [] 0=some (L,m)) (hedge:edgesBack ops=true)
  {env env':Env} {h h':Heap} {rs:List Rec} (hs:asteps cf pu nt base L env h=some (env',h',rs)) (hd:drawOK 0 (L.zip rs)=true) {w0:World} {phi0:Phi} {im0:Imm} {ds:List Deferred}
  (hQ:∀ a' w',Next1 G w0 phi0 im0 nt ds env' h' a' w'→Q .normal a' w') :
  ∀ (fuel:Nat) (listed:Array Bool),listed.size=ops.size→(listed.toList.countP (fun b=>!b))=fuel→(∀ i o,ops[i]?=some o→listed.getD i true=true→∀ e ∈ o.after.toList,Region.binds .any e=true→listed.getD e.on false=true) →
   ∀ {a:Act} {w:World} {phi:Phi} {im:Imm} {e:Env} {hh:Heap},FR cf pu nt base (didOf listed) 0 (L.zip rs) env h e hh→ER G w phi im e a.tmps→a.tmps.size=nt→a.defers=ds→SR w phi im hh→Post w0 phi0 im0 w phi im →
    wpAny P .any ops Q fuel listed a w:=by
 obtain ⟨hrl,hfull⟩:=FR.of_asteps (cf:=cf) (pu:=pu) (nt:=nt) (base:=base) 0 hs
 have hrel:=compOps_rel hc
 have hlen:L.length=ops.size:=by rw [hrel.len];simp
 have hT:(L.zip rs).length=ops.size:=by simp [hrl,hlen]
 have closed:∀ listed:Array Bool,listed.size=ops.size→(∀ i o,ops[i]?=some o→listed.getD i true=true→∀ e ∈ o.after.toList,Region.binds .any e=true→listed.getD e.on false=true) →
   ∀ (n i:Nat) ao,i<n→L[i]?=some ao→listed.getD i true=true→∀ j,ao.dep.testBit j=true→listed.getD j false=true:=by
  intro listed hsz hcl n
  induction n with
  | zero=>intro i ao hi;omega
  | succ n ih =>
   intro i ao hi hL hli j hj
   have hlt:=set_lt hL
   have hoi:ops[i]?=some ops[i]:=Array.getElem?_eq_getElem (by omega)
   have hdep:=compOps_dep hc i ops[i] ao (by simp) hL
   rw [hdep,List.nil_append] at hj
   obtain ⟨e,he,hb,hj⟩:=depOf_spec hj
   have hon:=hcl i _ hoi hli e he hb
   rcases hj with rfl|hj
   ·exact hon
   ·have hei:e.on<i:=by
     have:=List.all_eq_true.1 hedge i (by simp;omega)
     simp only [hoi] at this
     have:=List.all_eq_true.1 this e he
     simpa [hb] using this
    have hget:(L.take i).map (·.dep)=(L.map (·.dep)).take i:=by simp
    have hlte:e.on<L.length:=by omega
    rw [List.getD_eq_getElem?_getD,List.getElem?_map,List.getElem?_take_of_lt hei,List.getElem?_eq_getElem hlte] at hj
    simp only [Option.map_some,Option.getD_some] at hj
    refine ih e.on L[e.on] (by omega) (List.getElem?_eq_getElem hlte) ?_ j hj
    have:listed[e.on]?=some true:=by
     have hs2:e.on<listed.size:=by omega
     simpa [Array.getD_eq_getD_getElem?,hs2] using hon
    simp [Array.getD_eq_getD_getElem?,this]
 have down:∀ listed:Array Bool,listed.size=ops.size→(∀ i o,ops[i]?=some o→listed.getD i true=true→∀ e ∈ o.after.toList,Region.binds .any e=true→listed.getD e.on false=true) →
   ∀ k,k≤ops.size→∃ e' hh',FR cf pu nt base (fun j=>didOf listed j || decide (j<ops.size - k)) 0 (L.zip rs) env h e' hh':=by
  intro listed hsz hcl k
  induction k with
  | zero =>
   intro _
   refine ⟨env',h',hfull.congr fun j _=>?_⟩
   by_cases c:j<ops.size
   ·simp [c]
   ·simp [didOf,Array.getD_eq_getD_getElem?,Array.getElem?_eq_none (show listed.size≤j by omega)]
  | succ k ih =>
   intro hk
   obtain ⟨e1,hh1,hf⟩:=ih (by omega)
   by_cases c:didOf listed (ops.size - (k+1))=true
   ·refine ⟨e1,hh1,hf.congr fun j _=>?_⟩
    by_cases c2:j=ops.size - (k+1)
    ·subst c2;simp [c]
    ·have:decide (j<ops.size - (k+1))=decide (j<ops.size - k):=by
      apply decide_eq_decide.2;omega
     rw [this]
   ·have hx:ops.size - (k+1)<(L.zip rs).length:=by omega
    rcases hpx:(L.zip rs)[ops.size - (k+1)] with ⟨ox,rx⟩
    obtain ⟨e',hh',g1,_⟩:=hf.remove hm (x:=ops.size - (k+1)) (by simp;omega) (Nat.zero_le _) (ox:=ox) (rx:=rx) (by rw [Nat.sub_zero,List.getElem?_eq_getElem hx,hpx]) fun j o r hj hS hr=>by
     have hjn:didOf listed j=true:=by
      simp only [Bool.or_eq_true,decide_eq_true_eq] at hS
      rcases hS with hS|hS
      ·exact hS
      ·omega
     rw [Nat.sub_zero] at hr
     rcases drawOK_spec hd _ j ox rx o r (by rw [List.getElem?_eq_getElem hx,hpx]) hr hj with hdep|hind
     ·exfalso
      rw [Nat.zero_add] at hdep
      have hLj:L[j]?=some o:=by
       rw [List.getElem?_zip_eq_some] at hr;exact hr.1
      have:=closed listed hsz hcl (j+1) j o (by omega) hLj hjn _ hdep
      apply c
      have hs2:ops.size - (k+1)<listed.size:=by omega
      simpa [didOf,Array.getD_eq_getD_getElem?,hs2] using this
     ·exact hind
    refine ⟨e',hh',g1.congr fun j _=>?_⟩
    by_cases c2:j=ops.size - (k+1)
    ·subst c2
     have:didOf listed (ops.size - (k+1))=false:=by simpa using c
     simp [this]
    ·have h1:decide (j<ops.size - (k+1))=decide (j<ops.size - k):=by
      apply decide_eq_decide.2;omega
     have h2:(j == ops.size - (k+1))=false:=by simpa using c2
     rw [h1,h2];simp
 intro fuel
 induction fuel with
 | zero =>
  intro listed hsz hcnt hcl a w phi im e hh hf hE ht hds s hp
  have hall:∀ i,listed.getD i true=true:=by
   intro i
   by_cases c:i<listed.size
   ·have hmem:listed[i] ∈ listed.toList:=by simp
    have:=(List.countP_eq_zero.1 hcnt) _ hmem
    simp at this
    simp [Array.getD_eq_getD_getElem?,c,this]
   ·simp [Array.getD_eq_getD_getElem?,Array.getElem?_eq_none (show listed.size≤i by omega)]
  refine ⟨?_,?_⟩
  ·unfold Region.ready
   rw [List.filter_eq_nil_iff]
   intro i _
   simp [hall i]
  ·have:=hf.det (hfull.congr fun j _=>by simp [didOf,hall j])
   obtain ⟨rfl,rfl⟩:=this
   exact hQ a w ⟨phi,im,hE,ht,hds,s,hp⟩
 | succ fuel ih =>
  intro listed hsz hcnt hcl a w phi im e hh hf hE ht hds s hp
  refine ⟨fun hnil=>?_,fun i hi=>?_⟩
  ·-- something is always ready
   exfalso
   have hex:∃ i,i<ops.size∧listed.getD i true=false:=by
    have hpos:0<listed.toList.countP (fun b=>!b):=by omega
    obtain ⟨b,hb,hb2⟩:=List.countP_pos_iff.1 hpos
    obtain ⟨i,hi,rfl⟩:=List.mem_iff_getElem.1 hb
    have hi':i<listed.size:=by simpa using hi
    refine ⟨i,by omega,?_⟩
    simp at hb2
    simp [Array.getD_eq_getD_getElem?,hi',hb2]
   have least:∀ n,(∀ i,i<n→listed.getD i true=true)∨∃ i,i<n∧listed.getD i true=false∧∀ j,j<i→listed.getD j true=true:=by
    intro n
    induction n with
    | zero=>exact .inl fun i hi=>by omega
    | succ n ihn =>
     rcases ihn with hall|⟨i,h1,h2,h3⟩
     ·by_cases hb:listed.getD n true=true
      ·refine .inl fun i hi=>?_
       by_cases c:i=n
       ·rw [c];exact hb
       ·exact hall i (by omega)
      ·exact .inr ⟨n,by omega,by simpa using hb,hall⟩
     ·exact .inr ⟨i,by omega,h2,h3⟩
   obtain ⟨i0,hi0,hf0⟩:=hex
   rcases least ops.size with hall|⟨i,h1,h2,h3⟩
   ·rw [hall i0 hi0] at hf0;cases hf0
   ·have hmem:i ∈ Region.ready .any ops listed:=by
     unfold Region.ready
     rw [List.mem_filter]
     refine ⟨by simp;exact h1,?_⟩
     have hoi:ops[i]?=some ops[i]:=Array.getElem?_eq_getElem h1
     simp only [h2,Bool.not_false,Bool.true_and,hoi,Option.map_some,Option.getD_some]
     rw [Array.all_eq_true_iff_forall_mem]
     intro e he
     have hback:=List.all_eq_true.1 hedge i (by simp;exact h1)
     simp only [hoi] at hback
     have:=List.all_eq_true.1 hback e (by simpa using he)
     simp only [Bool.or_eq_true,Bool.not_eq_true',decide_eq_true_eq] at this ⊢
     rcases this with q|q
     ·exact .inl q
     ·have q2:=h3 e.on q
      have hs2:e.on<listed.size:=by omega
      right
      simpa [Array.getD_eq_getD_getElem?,hs2] using q2
    rw [hnil] at hmem
    simp at hmem
  ·unfold Region.ready at hi
   rw [List.mem_filter] at hi
   obtain ⟨hir,hrd⟩:=hi
   have hio:i<ops.size:=by simpa using hir
   have hoi:ops[i]?=some ops[i]:=Array.getElem?_eq_getElem hio
   simp only [hoi,Option.map_some,Option.getD_some,Bool.and_eq_true,Bool.not_eq_true'] at hrd
   obtain ⟨hun,hedges⟩:=hrd
   rw [Array.all_eq_true_iff_forall_mem] at hedges
   have hil:i<listed.size:=by omega
   have hset:∀ (j:Nat) (d:Bool),(listed.setIfInBounds i true).getD j d=if j=i then true else listed.getD j d:=by
    intro j d
    by_cases c:j=i
    ·subst c;simp [Array.getD_eq_getD_getElem?,hil]
    ·simp [Array.getD_eq_getD_getElem?,show ¬ i=j from fun q=>c q.symm,c]
   have hcl':∀ j o,ops[j]?=some o→(listed.setIfInBounds i true).getD j true=true→∀ e ∈ o.after.toList,Region.binds .any e=true→(listed.setIfInBounds i true).getD e.on false=true:=by
    intro j o hj hlj e he hb
    rw [hset] at hlj ⊢
    by_cases c2:e.on=i
    ·rw [if_pos c2]
    ·rw [if_neg c2]
     by_cases c:j=i
     ·subst c
      rw [hoi] at hj
      cases hj
      have:=hedges e (by simpa using he)
      simpa [hb] using this
     ·rw [if_neg c] at hlj
      exact hcl j o hj hlj e he hb
   obtain ⟨e2,hh2,hf2⟩:=down (listed.setIfInBounds i true) (by simpa using hsz) hcl' ops.size (Nat.le_refl _)
   have hf2:FR cf pu nt base (didOf (listed.setIfInBounds i true)) 0 (L.zip rs) env h e2 hh2:=hf2.congr fun j _=>by simp
   have hx:i<(L.zip rs).length:=by omega
   rcases hpx:(L.zip rs)[i] with ⟨ox,rx⟩
   have hTx:(L.zip rs)[i]?=some (ox,rx):=by rw [List.getElem?_eq_getElem hx,hpx]
   obtain ⟨e',hh',g1,g2⟩:=hf2.remove hm (x:=i) (by simp [didOf,hset]) (Nat.zero_le _) (ox:=ox) (rx:=rx) (by rw [Nat.sub_zero];exact hTx) fun j o r hj hS hr=>by
    rw [Nat.sub_zero] at hr
    have hjn:listed.getD j true=true:=by
     simp only [didOf,hset] at hS
     rw [if_neg (by omega)] at hS
     exact hS
    rcases drawOK_spec hd i j ox rx o r hTx hr hj with hdep|hind
    ·exfalso
     rw [Nat.zero_add] at hdep
     have hLj:L[j]?=some o:=by
      rw [List.getElem?_zip_eq_some] at hr;exact hr.1
     have:=closed listed hsz hcl (j+1) j o (by omega) hLj hjn _ hdep
     simp [Array.getD_eq_getD_getElem?,hil] at this hun
     rw [this] at hun
     cases hun
    ·exact hind
   have g1':FR cf pu nt base (didOf listed) 0 (L.zip rs) env h e' hh':=g1.congr fun j _=>by
    simp only [didOf,hset]
    by_cases c:j=i
    ·subst c;simp only [hun];simp
    ·have:(j == i)=false:=by simpa using c
     rw [if_neg c,this];simp
   obtain ⟨rfl,rfl⟩:=hf.det g1'
   have hLx:L[i]?=some ox:=by rw [List.getElem?_zip_eq_some] at hTx;exact hTx.1
   obtain ⟨ao,hao,hrelx⟩:=hrel.get i ops[i] (by simp)
   rw [hLx] at hao
   cases hao
   have hcount:(listed.setIfInBounds i true).toList.countP (fun b=>!b)=fuel:=by
    have hfi:listed[i]=false:=by simpa [Array.getD_eq_getD_getElem?,hil] using hun
    have:(listed.setIfInBounds i true).toList=listed.toList.set i true:=by simp
    rw [this]
    have key:∀ (l:List Bool) (i:Nat) (hi:i<l.length),l[i]=false→(l.set i true).countP (fun b=>!b)+1=l.countP (fun b=>!b):=by
     intro l
     induction l with
     | nil=>intro i hi;simp at hi
     | cons b l ihl =>
      intro i hi hb
      cases i with
      | zero=>simp at hb;subst hb;simp
      | succ i =>
       simp at hb hi
       have:=ihl i hi hb
       simp only [List.set_cons_succ,List.countP_cons]
       omega
    have:=key listed.toList i (by simpa using hil) (by simp [hfi])
    omega
   have hstep:=astep_sound hcf hrelx g2 hE ht s (Q:=Q) (K:=wpAny P .any ops Q fuel (listed.setIfInBounds i true)) fun a' w' hn=>by
    obtain ⟨phi1,im1,x1,x2,x3,x4,x5⟩:=hn
    exact ih (listed.setIfInBounds i true) (by simpa using hsz) hcount hcl' hf2 x1 x2 (x3.trans hds) x4 (hp.trans x5)
   unfold wpOp
   simp only [hoi]
   split
   ·rename_i hw;rw [if_pos hw] at hstep;exact .inl hstep
   ·rename_i hw;rw [if_neg hw] at hstep;exact hstep
end
end Go.AM
