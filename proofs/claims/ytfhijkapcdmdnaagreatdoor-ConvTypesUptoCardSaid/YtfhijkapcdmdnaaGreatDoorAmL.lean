/- The abstract machine: one operation of a region, calls too; operations one behind the other, in whatever order. -/
import Derived.Test.YtfhijkapcdmdnaaGreatDoorAmK
import Derived.Test.YtfhijkapcdmdnaaGreatDoorAmY
namespace Go.AM
variable {G:GTab}
def Enters (P : Program) (g : Nat) : Prop := ∃ fn, P.funcs[g]? = some fn ∧ (fn.name == "runtime.NumGoroutine") = false ∧ fn.body.isSome = true
def isCall:AOp→Bool
 | .call _ _=>true
 | _=>false
theorem map_nocall {α:Type} {x:Option α} {f:α→AOp} {ao:AOp} (h:x.map f=some ao) (hf:∀ y,isCall (f y)=false):isCall ao=false:=by
 simp only [Option.map_eq_some_iff] at h
 obtain ⟨y,_,rfl⟩:=h
 exact hf y
theorem bin_nocall {P:Program} {op:BinOp} {t:TypeId} {x y:AO} {ao:AOp} (h:compBin P op t x y=some ao):isCall ao=false:=by
 unfold compBin at h
 split at h<;>(try split at h)<;>first
  | (cases h;rfl)
  | exact map_nocall h fun _=>rfl
  | cases h
theorem conv_nocall {P:Program} {s d:TypeId} {x:AO} {ao:AOp} {vl:Bool} (h:compConv P vl s d x=some ao):isCall ao=false:=by
 unfold compConv at h
 split at h<;>(try split at h)<;>first
  | (cases h;rfl)
  | cases h
theorem op1_nocall {P:Program} {o:Op} {ao:AOp} {vl:Bool} (h:compOp1 P G vl o=some ao) (hn:∀ c,o ≠ .call c):isCall ao=false:=by
 cases o<;>simp only [compOp1] at h
 case call c=>exact absurd rfl (hn c)
 case binOp=>split at h<;>first|exact bin_nocall h|cases h
 case convert=>split at h<;>first|exact conv_nocall h|cases h
 case makeFunc fn _ _=>cases fn<;>simp only at h<;>(try split at h)<;>first|(cases h;rfl)|cases h
 case makeMap t r=>cases r<;>first|(cases h;rfl)|cases h
 all_goals (repeat' split at h)<;>first
  | (cases h;rfl)
  | exact map_nocall h fun _=>rfl
  | cases h
theorem op_nocall {P:Program} {o:Op} {vl:Bool} (hn:∀ c,o ≠ .call c):isCall (compOp P G vl o)=false:=by
 unfold compOp
 cases h:compOp1 P G vl o with
 | none=>rfl
 | some ao=>exact op1_nocall h hn
theorem call_inv1 {P:Program} {c:Call} {f:AO} {args:List AO} {vl:Bool} (h:compCall P G vl c=some (.call f args)):∃ g,c.callee = .value g∧compO G g=some f∧compOL G c.args.toList=some args:=by
 cases hcal:c.callee with
 | value g =>
  simp only [compCall,hcal] at h
  split at h
  ·rename_i x y h1 h2
   split at h
   ·cases h
   ·cases h
    exact ⟨g,rfl,h1,h2⟩
  ·cases h
 | invoke _ _=>simp only [compCall,hcal] at h;cases h
 | builtin b =>
  unfold compCall at h
  rw [hcal] at h
  (repeat' split at h)<;>first
   | cases h
   | (rename_i q;cases q)
   | skip
  all_goals simp_all
theorem call_inv {P:Program} {c:Call} {f:AO} {args:List AO} {vl:Bool} (h:compOp P G vl (.call c) = .call f args):∃ g,c.callee = .value g∧compO G g=some f∧compOL G c.args.toList=some args:=by
 unfold compOp at h
 simp only [compOp1] at h
 cases hc:compCall P G vl c with
 | none=>rw [hc] at h;cases h
 | some ao=>rw [hc] at h;simp only [Option.getD_some] at h;subst h;exact call_inv1 hc
def CallOK (P:Program) (G:GTab) (cf:CallF):Prop:=XOK P G∧∀ g args h v h' wr,cf g args h=some (v,h',wr)→∀ (w:World) (phi:Phi) (im:Imm) (rargs:Array Value),SR w phi im h→GOK G w im→rargs.size=args.length →
 (∀ (i:Nat) x,args[i]?=some x→VR w phi im x (rargs.getD i Go.undef)) →
 Enters P g∧Calls P g rargs w fun e w'=>∃ rv phi' im',e = .returned rv∧VR w' phi' im' v rv∧SR w' phi' im' h'∧Post w phi im w' phi' im'
structure CallMem (cf:CallF) (pu:PureF):Prop where
 pure:∀ g args h v h' wr,pu g args=true→cf g args h=some (v,h',wr)→h'=h∧∀ h2,cf g args h2=some (v,h2,wr)
 frame:∀ g args h v h' wr,cf g args h=some (v,h',wr)→h.length≤h'.length∧∀ id,id<h.length→id ∉ wr→h'[id]?=h[id]?
 grow:CallGrow cf
section
variable {P:Program} {w:World} {phi:Phi} {im:Imm} {h:Heap} {env:Env}
theorem ER.put {t:Array Value} (e:ER G w phi im env t) {v:AV} {rv:Value} (hv:VR w phi im v rv) {d:Nat} (hd:d<t.size):ER G w phi im (upd env d v) (t.setIfInBounds d rv):=by
 refine ⟨fun n=>?_,e.2⟩
 unfold upd
 by_cases q:n=d
 ·subst q
  rw [if_pos rfl]
  have:(t.setIfInBounds n rv).getD n Go.undef=rv:=by simp [Array.getD_eq_getD_getElem?,hd]
  rw [this];exact hv
 ·rw [if_neg q]
  have:(t.setIfInBounds d rv).getD n Go.undef=t.getD n Go.undef:=by simp [Array.getD_eq_getD_getElem?,show ¬ d=n from fun q'=>q q'.symm]
  rw [this];exact e.1 n
theorem ER.mono {w':World} {phi':Phi} {im':Imm} {t:Array Value} (s:SR w phi im h) (p:Post w phi im w' phi' im') (e:ER G w phi im env t):ER G w' phi' im' env t:=⟨fun n=>s.mono p (e.1 n),e.2.mono p.imkeep p.shape p.imext⟩
structure OpRel (P:Program) (G:GTab) (ops:Array Oper) (o:Oper) (ao:AOper):Prop where
 dst:ao.dst=o.dst
 op:∃ vl,ao.op=compOp P G vl o.op
 guard:compG ops o.guard=some ao.guard
theorem wanted_ok {ops:Array Oper} {o:Oper} {g:Option (Nat × Bool)} {t:Array Value} (hg:compG ops o.guard=some g) (e:ER G w phi im env t) {b:Bool} (hw:wanted env g=some b):Region.wanted o (yielded ops t)=b:=by
 unfold compG at hg
 split at hg
 ·rename_i hn
  cases hg
  simp only [wanted,Option.some.injEq] at hw
  simp [Region.wanted,hn,hw]
 ·rename_i j want hn
  split at hg
  ·rename_i d hd
   cases hg
   simp only [wanted] at hw
   split at hw
   ·rename_i c hc
    cases hw
    have:=e.1 d
    rw [hc] at this
    have:=this.bool_inv
    have hlt:t[d]?=some (.bool c):=by
     rcases Nat.lt_or_ge d t.size with q|q
     ·simpa [Array.getD_eq_getD_getElem?,q] using this
     ·simp [Array.getD_eq_getD_getElem?,q,Go.undef] at this
    have hy:yielded ops t j=some c:=by
     unfold yielded
     rw [hd]
     simp only [Option.bind_some,hlt]
    simp [Region.wanted,hn,hy]
   ·rename_i hc
    cases hw
    have:=e.1 d
    rw [hc] at this
    obtain ⟨vs,hvs,hsz,_⟩:=this.tup_inv
    have hv0:vs=#[]:=Array.eq_empty_of_size_eq_zero (by simpa using hsz)
    subst hv0
    have hy:yielded ops t j=none:=by
     unfold yielded
     rw [hd]
     simp only [Option.bind_some]
     rcases Nat.lt_or_ge d t.size with q|q
     ·have:t[d]?=some (.tuple #[]):=by simpa [Array.getD_eq_getD_getElem?,q] using hvs
      rw [this]
     ·rw [Array.getElem?_eq_none q]
    simp [Region.wanted,hn,hy]
   ·cases hw
  ·cases hg
def Next1 (G:GTab) (w:World) (phi:Phi) (im:Imm) (nt:Nat) (ds:List Deferred) (env':Env) (h':Heap) (a':Act) (w':World):Prop :=
 ∃ (phi':Phi) (im':Imm),ER G w' phi' im' env' a'.tmps∧a'.tmps.size=nt∧a'.defers=ds∧SR w' phi' im' h'∧Post w phi im w' phi' im'
theorem put_some {nt:Nat} {env env':Env} {dst:Option Nat} {v:AV} (hp:put nt env dst v=some env') {t:Array Value} (ht:t.size=nt) (e:ER G w phi im env t) {rv:Value} (hv:VR w phi im v rv) (ds:List Deferred) :
  ER G w phi im env' (({ tmps:=t,defers:=ds }:Act).put dst rv).tmps∧(({ tmps:=t,defers:=ds }:Act).put dst rv).tmps.size=nt∧(({ tmps:=t,defers:=ds }:Act).put dst rv).defers=ds:=by
 unfold put at hp
 cases dst with
 | none=>cases hp;exact ⟨e,ht,rfl⟩
 | some d =>
  simp only at hp
  split at hp
  ·rename_i hd
   cases hp
   exact ⟨e.put hv (by omega),by simp [Act.put,ht],rfl⟩
  ·cases hp
theorem astep_sound {cf:CallF} {pu:PureF} (hcf:CallOK P G cf) {ops:Array Oper} {o:Oper} {ao:AOper} (hrel:OpRel P G ops o ao) {nt base:Nat} {a:Act} {env':Env} {h':Heap} {r:Rec}
  (hs:astep cf pu nt base ao env h=some (env',h',r)) (e:ER G w phi im env a.tmps) (ht:a.tmps.size=nt) (s:SR w phi im h) {Q:Exit→Act→World→Prop} {K:Act→World→Prop}
  (hK:∀ a' w',Next1 G w phi im nt a.defers env' h' a' w'→K a' w') :
  if Region.wanted o (yielded ops a.tmps) then o.wp P a w K Q else K (a.put o.dst Go.undef) w:=by
 unfold astep at hs
 split at hs
 ·cases hs
 ·rename_i hw
  rw [wanted_ok hrel.guard e hw]
  simp only [Bool.false_eq_true,if_false]
  simp only [Option.map_eq_some_iff] at hs
  obtain ⟨e',he',hq⟩:=hs
  cases hq
  rw [← hrel.dst]
  obtain ⟨h1,h2,h3⟩:=put_some he' ht e (VR.tup [] #[] rfl (fun i x hx=>by simp at hx):VR w phi im (.tup []) Go.undef) a.defers
  exact hK _ _ ⟨phi,im,h1,h2,h3,s,Post.refl _ _ _⟩
 ·rename_i hw
  rw [wanted_ok hrel.guard e hw]
  simp only [if_true]
  split at hs
  ·cases hs
  ·rename_i v h1 r1 hrun
   simp only [Option.map_eq_some_iff] at hs
   obtain ⟨e',he',hq⟩:=hs
   cases hq
   obtain ⟨vl,hop⟩:=hrel.op
   unfold stepRun at hrun
   split at hrun
   ·rename_i f args hcall
    rw [hcall] at hop
    split at hrun
    ·rename_i g first caps hf
     split at hrun
     ·rename_i v0 h0 wr hcfr
      cases hrun
      obtain ⟨c,hc,hcc⟩:∃ c,o.op = .call c∧compOp P G vl (.call c) = .call f args:=by
       generalize hoo:o.op=oo at hop
       by_cases hcal:∃ c,oo = .call c
       ·obtain ⟨c,rfl⟩:=hcal
        exact ⟨c,rfl,hop.symm⟩
       ·have:=op_nocall (P:=P) (G:=G) (vl:=vl) fun c hq=>hcal ⟨c,hq⟩
        rw [← hop] at this
        cases this
      obtain ⟨fo,h1,h2,h3⟩:=call_inv hcc
      obtain ⟨first',caps',hav,hfn',hfr,hcn,hcr⟩:=(hf ▸ compO_ok e h2:VR w phi im (.fn g first caps) (a.eval fo)).fn_inv
      obtain ⟨ha1,ha2⟩:=evalL_ok (a:=a) e h3
      obtain ⟨⟨fn,hfn,hname,hbody⟩,hcalls⟩:=hcf.2 g _ h _ _ _ hcfr w phi im (first' ++ c.args.map a.eval ++ caps') s e.2 (by simp only [Array.size_append,List.length_append,ha1,hcn,hfn']) (fun i x hx=>by
       rw [List.getElem?_append] at hx
       split at hx
       ·rename_i hlt
        simp only [List.length_append] at hlt
        have q:(first' ++ c.args.map a.eval ++ caps').getD i Go.undef=(first' ++ c.args.map a.eval).getD i Go.undef:=by
         simp only [Array.getD_eq_getD_getElem?]
         rw [Array.getElem?_append_left (by simp only [Array.size_append];omega)]
        rw [q]
        rw [List.getElem?_append] at hx
        split at hx
        ·rename_i hlt1
         have q:(first' ++ c.args.map a.eval).getD i Go.undef=first'.getD i Go.undef:=by
          simp only [Array.getD_eq_getD_getElem?]
          rw [Array.getElem?_append_left (by omega)]
         rw [q];exact hfr i x hx
        ·rename_i hge
         have q:(first' ++ c.args.map a.eval).getD i Go.undef=(c.args.map a.eval).getD (i - first.length) Go.undef:=by
          simp only [Array.getD_eq_getD_getElem?]
          rw [Array.getElem?_append_right (by omega),hfn']
         rw [q];exact ha2 _ x hx
       ·rename_i hlt
        have:=hcr _ x hx
        have q:(first' ++ c.args.map a.eval ++ caps').getD i Go.undef=caps'.getD (i - (first ++ args.map (ev env)).length) Go.undef:=by
         simp only [Array.getD_eq_getD_getElem?]
         rw [Array.getElem?_append_right (by simp only [List.length_append] at hlt;simp only [Array.size_append];omega)]
         simp only [Array.size_append,List.length_append,ha1,hfn']
        rw [q];exact this)
      have hexec:(execOp a.eval o).run P w = .ok (.enter g (first' ++ c.args.map a.eval ++ caps')) w:=by
       have hn:fn.body.isNone=false:=by cases hbb:fn.body<;>simp_all
       simp only [execOp,hc,resolve,h1,hav,Deferred.ofValue,Sem.run_bind,Sem.run_pure,Result.andThen_ok,invoke,callFunc,run_program,hfn,hname,hn,Bool.false_eq_true,if_false]
      unfold Oper.wp
      rw [hexec]
      simp only [Oper.upon]
      refine hcalls.mono ?_
      rintro en w' ⟨rv,phi',im',rfl,hv,hs',hp⟩
      obtain ⟨h1,h2,h3⟩:=put_some he' ht (e.mono s hp) hv a.defers
      rw [← hrel.dst]
      exact hK _ _ ⟨phi',im',h1,h2,h3,hs',hp⟩
     ·cases hrun
    ·cases hrun
   ·split at hrun
    ·rename_i v0 h0 hrun0
     cases hrun
     rw [hop] at hrun0
     obtain ⟨n,rv,w',phi',im',hex,hn,hv,hs',hp⟩:=aop_sound hcf.1 e s hrun0
     unfold Oper.wp
     rw [hex]
     obtain ⟨h1,h2,h3⟩:=put_some he' ht (e.mono s hp) hv a.defers
     rcases hn with rfl|⟨rfl,rfl⟩
     ·simp only [Oper.upon]
      rw [← hrel.dst]
      exact hK _ _ ⟨phi',im',h1,h2,h3,hs',hp⟩
     ·simp only [Oper.upon]
      rw [← hrel.dst]
      exact hK _ _ ⟨phi',im',h1,h2,h3,hs',hp⟩
    ·cases hrun
theorem Next1.start {w:World} {phi:Phi} {im:Imm} {h:Heap} {env:Env} {a:Act} {nt:Nat} (e:ER G w phi im env a.tmps) (ht:a.tmps.size=nt) (s:SR w phi im h):Next1 G w phi im nt a.defers env h a w :=
 ⟨phi,im,e,ht,rfl,s,Post.refl _ _ _⟩
theorem Next1.trans {w w1:World} {phi:Phi} {im:Imm} {nt:Nat} {ds:List Deferred} {phi1:Phi} {im1:Imm} (p:Post w phi im w1 phi1 im1) {env2:Env} {h2:Heap} {a2:Act} {w2:World}
  (hn:Next1 G w1 phi1 im1 nt ds env2 h2 a2 w2):Next1 G w phi im nt ds env2 h2 a2 w2:=by
 obtain ⟨phi2,im2,x1,x2,x3,x4,x5⟩:=hn
 exact ⟨phi2,im2,x1,x2,x3,x4,p.trans x5⟩
end
end Go.AM
