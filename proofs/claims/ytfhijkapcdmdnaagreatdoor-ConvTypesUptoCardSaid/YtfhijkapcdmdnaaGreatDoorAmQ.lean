/- The abstract machine without fuel: 'Acall', 'Arun' and 'Areify' answer as soon as some fuel lets the others answer; their equations. -/
import Derived.Test.YtfhijkapcdmdnaaGreatDoorAmP
namespace Go.AM
def LeF (c d:CallF):Prop:=∀ g args h r,c g args h=some r→d g args h=some r
section
variable {cf cf':CallF} {pu:PureF} {nt:Nat}
theorem stepRun_other {base:Nat} {o:AOper} {e:Env} {h:Heap} (ho:∀ f args,o.op ≠ .call f args):stepRun cf pu base o e h=match (aop (base+o.slot) e o.op).run (base+o.slot) h with
  | some (v,h')=>some (v,h',.hc ((aop (base+o.slot) e o.op).rds (base+o.slot) h) ((aop (base+o.slot) e o.op).wrs (base+o.slot) h))
  | none=>none:=by
 obtain ⟨d,op,g,sl,dp⟩:=o
 cases op<;>first|rfl|exact (ho _ _ rfl).elim
theorem stepRun_call {base:Nat} {o:AOper} {e:Env} {h:Heap} {f:AO} {args:List AO} (ho:o.op = .call f args):stepRun cf pu base o e h=match ev e f with
  | .fn g first caps=>match cf g (first ++ args.map (ev e) ++ caps) h with
   | some (v,h',w)=>some (v,h',if pu g (first ++ args.map (ev e) ++ caps) then .hc [] [] else .kc h.length w)
   | none=>none
  | _=>none:=by
 obtain ⟨d,op,g,sl,dp⟩:=o
 simp only at ho
 subst ho
 rfl
theorem stepRun_mono (hc:LeF cf cf') {base:Nat} {o:AOper} {e:Env} {h:Heap} {r:AV × Heap × Rec} (hr:stepRun cf pu base o e h=some r):stepRun cf' pu base o e h=some r:=by
 by_cases ho:∃ f args,o.op = .call f args
 ·obtain ⟨f,args,ho⟩:=ho
  rw [stepRun_call ho] at hr ⊢
  split at hr
  ·split at hr
   ·rename_i hq
    simp only [hc _ _ _ _ hq]
    exact hr
   ·cases hr
  ·cases hr
 ·have ho:∀ f args,o.op ≠ .call f args:=fun f args q=>ho ⟨f,args,q⟩
  rw [stepRun_other ho] at hr ⊢
  exact hr
theorem astep_mono (hc:LeF cf cf') {base:Nat} {o:AOper} {e:Env} {h:Heap} {r:Env × Heap × Rec} (hr:astep cf pu nt base o e h=some r):astep cf' pu nt base o e h=some r:=by
 unfold astep at hr ⊢
 split at hr
 ·cases hr
 ·exact hr
 ·split at hr
  ·cases hr
  ·rename_i hq
   simp only [stepRun_mono hc hq]
   exact hr
theorem asteps_mono (hc:LeF cf cf') {base:Nat}:∀ {l:List AOper} {e:Env} {h:Heap} {r:Env × Heap × List Rec},asteps cf pu nt base l e h=some r→asteps cf' pu nt base l e h=some r:=by
 intro l
 induction l with
 | nil=>intro e h r hr;exact hr
 | cons o t ih =>
  intro e h r hr
  simp only [asteps] at hr ⊢
  split at hr
  ·cases hr
  ·rename_i hq
   simp only [Option.map_eq_some_iff] at hr
   obtain ⟨x,hx,rfl⟩:=hr
   simp only [astep_mono hc hq,ih hx,Option.map_some]
theorem aregion_mono (hc:LeF cf cf') {d:Bool} {ops:List AOper} {keep:List Nat} {n:Nat} {s s':St} (hr:aregion cf pu nt d ops keep n s=some s'):aregion cf' pu nt d ops keep n s=some s':=by
 unfold aregion at hr ⊢
 split at hr
 ·cases hr
 ·rename_i hq
  simp only [asteps_mono hc hq]
  exact hr
theorem arun_mono (hc:LeF cf cf') {fuel fuel':Nat} (hf:fuel≤fuel'):∀ {c:ACode} {s:St} {r:Ex × St},arun cf pu nt fuel c s=some r→arun cf' pu nt fuel' c s=some r:=by
 intro c
 induction c with
 | skip=>intro s r h;exact h
 | exit id=>intro s r h;exact h
 | ret=>intro s r h;exact h
 | stuck=>intro s r h;cases h
 | region d ops keep n =>
  intro s r h
  simp only [arun,Option.map_eq_some_iff] at h ⊢
  obtain ⟨x,hx,rfl⟩:=h
  exact ⟨x,aregion_mono hc hx,rfl⟩
 | seq a b iha ihb =>
  intro s r h
  simp only [arun] at h ⊢
  split at h
  ·rename_i s1 h1
   simp only [iha h1]
   exact ihb h
  ·rename_i x hne
   cases hx:arun cf pu nt fuel a s with
   | none=>rw [hx] at h;cases h
   | some y =>
    rw [hx] at h
    cases h
    obtain ⟨e1,s1⟩:=r
    rw [iha hx]
    cases e1 with
    | normal=>exact (hne s1 hx).elim
    | exit i=>rfl
    | ret=>rfl
 | cond c a b iha ihb =>
  intro s r h
  simp only [arun] at h ⊢
  split at h
  ·exact iha h
  ·exact ihb h
  ·cases h
 | block id b ih =>
  intro s r h
  simp only [arun] at h ⊢
  cases hx:arun cf pu nt fuel b s with
  | none=>rw [hx] at h;cases h
  | some y=>rw [hx] at h;rw [ih hx];exact h
 | loop b ih =>
  intro s r h
  simp only [arun] at h ⊢
  have key:∀ (n m:Nat) (s:St),n≤m→aloop (arun cf pu nt fuel b) n s=some r→aloop (arun cf' pu nt fuel' b) m s=some r:=by
   intro n
   induction n with
   | zero=>intro m s _ h;cases h
   | succ n ihn =>
    intro m s hm h
    obtain ⟨m',rfl⟩:∃ m',m=m'+1:=⟨m - 1,by omega⟩
    simp only [aloop] at h ⊢
    cases hx:arun cf pu nt fuel b s with
    | none=>rw [hx] at h;cases h
    | some y =>
     rw [hx] at h
     rw [ih hx]
     obtain ⟨e1,s1⟩:=y
     cases e1 with
     | normal=>exact ihn m' s1 (by omega) h
     | exit i=>exact h
     | ret=>exact h
  exact key fuel fuel' s hf h
theorem mapM_mono {α β:Type} {f g:α→Option β} (hfg:∀ x y,f x=some y→g x=some y):∀ {l:List α} {m:List β},l.mapM f=some m→l.mapM g=some m:=by
 intro l
 induction l with
 | nil=>intro m h;simpa using h
 | cons x r ih =>
  intro m h
  rw [List.mapM_cons] at h ⊢
  simp only [Option.bind_eq_bind,Option.bind_eq_some_iff,Option.pure_def,Option.some.injEq] at h ⊢
  obtain ⟨y,hy,m',hm',rfl⟩:=h
  exact ⟨y,hfg _ _ hy,m',ih hm',rfl⟩
theorem reify_mono {h:Heap}:∀ {n m:Nat} {v v':AV},n≤m→reify h n v=some v'→reify h m v=some v':=by
 intro n
 induction n with
 | zero=>intro m v v' _ hr;cases hr
 | succ n ih =>
  intro m v v' hm hr
  obtain ⟨m',rfl⟩:∃ m',m=m'+1:=⟨m - 1,by omega⟩
  have up:∀ x y,reify h n x=some y→reify h m' x=some y:=fun x y hx=>ih (by omega) hx
  cases v<;>simp only [reify] at hr ⊢<;>try exact hr
  case mp id off =>
   split at hr
   ·split at hr
    ·simp only [Option.map_eq_some_iff] at hr ⊢
     rename_i h2
     obtain ⟨l,hl,rfl⟩:=hr
     simp only [if_pos h2,mapM_mono up hl,Option.map_some]
    ·cases hr
   ·cases hr
  case ms id off len sz cap ex =>
   split at hr
   ·split at hr
    ·simp only [Option.map_eq_some_iff] at hr ⊢
     rename_i h2
     obtain ⟨l,hl,rfl⟩:=hr
     simp only [if_pos h2,mapM_mono up hl,Option.map_some]
    ·cases hr
   ·cases hr
  case fn f first caps =>
   split at hr
   ·rename_i l m' hl hm'
    rw [mapM_mono up hl,mapM_mono up hm']
    exact hr
   ·cases hr
  all_goals
   simp only [Option.map_eq_some_iff] at hr ⊢
   obtain ⟨l,hl,rfl⟩:=hr
   first
    | exact ⟨l,mapM_mono up hl,rfl⟩
    | exact ⟨l,up _ _ hl,rfl⟩
end
variable {A:Tab}
theorem abody_mono {cf cf':CallF} (hc:LeF cf cf') {fuel fuel':Nat} (hf:fuel≤fuel') {f:AFn} {args:List AV} {h:Heap} {r:AV × Heap × List Nat} (hr:abody A cf fuel f args h=some r):abody A cf' fuel' f args h=some r:=by
 unfold abody at hr ⊢
 cases hx:arun cf (isPure A) f.nt fuel f.body ⟨fun t=>args.getD t .undef,h,[]⟩ with
 | none=>rw [hx] at hr;cases hr
 | some y=>rw [hx] at hr;rw [arun_mono hc hf hx];exact hr
theorem aown_mono {cf cf':CallF} (hc:LeF cf cf') {k m:Nat} (hk:k≤m) {f:AFn} {args:List AV} {v:AV} (h:aown A cf k f args=some v):aown A cf' m f args=some v:=by
 unfold aown at h ⊢
 cases he:f.ext with
 | some F=>rw [he] at h;exact h
 | none =>
  rw [he] at h
  dsimp only at h ⊢
  cases hb:abody A cf k f args [] with
  | none=>rw [hb] at h;cases h
  | some r =>
   rw [hb] at h
   rw [abody_mono hc hk hb]
   exact reify_mono hk h
theorem aboth_mono {cf cf':CallF} (hc:LeF cf cf') {k m:Nat} (hk:k≤m) {f:AFn} {args:List AV} {v:AV} (h:aboth A cf k f args=some v):aboth A cf' m f args=some v:=by
 unfold aboth at h ⊢
 split at h
 ·rename_i e1 e2
  rw [aown_mono hc hk e1,aown_mono hc hk e2]
  exact h
 ·cases h
theorem acall_step:∀ k,LeF (acall A k) (acall A (k+1)):=by
 intro k
 induction k with
 | zero=>intro g args h r hr;cases hr
 | succ k ih =>
  intro g args h r hr
  rw [acall] at hr
  rw [acall]
  split at hr
  ·cases hr
  ·rename_i f hf
   split at hr
   ·cases hr
   ·rename_i hl
    simp only [hl,if_false]
    cases hmi:(f.mode != 0 && imm.immL args) with
    | true =>
     simp only [hmi,if_true] at hr ⊢
     simp only [Option.map_eq_some_iff] at hr ⊢
     obtain ⟨v',hv',rfl⟩:=hr
     refine ⟨v',?_,rfl⟩
     split at hv'
     ·rename_i hq;rw [if_pos hq];exact aboth_mono ih (Nat.le_succ k) hv'
     ·rename_i hq;rw [if_neg hq];exact aown_mono ih (Nat.le_succ k) hv'
    | false =>
     simp only [hmi,if_false,Bool.false_eq_true] at hr ⊢
     split at hr
     ·cases hr
     ·rename_i h2
      rw [if_neg h2]
      split at hr
      ·rename_i hb
       simp only [abody_mono ih (Nat.le_succ k) hb]
       exact hr
      ·cases hr
theorem acall_mono {k m:Nat} (h:k≤m):LeF (acall A k) (acall A m):=by
 induction h with
 | refl=>exact fun _ _ _ _ h=>h
 | step _ ih=>exact fun g args h r hr=>acall_step _ g args h r (ih g args h r hr)
noncomputable def lim {α:Type} (f:Nat→Option α):Option α :=
 @dite _ (∃ k r,f k=some r) (Classical.propDecidable _) (fun h=>f (Classical.choose h)) fun _=>none
theorem lim_iff {α:Type} {f:Nat→Option α} (hm:∀ k m r,k≤m→f k=some r→f m=some r) {r:α}:lim f=some r↔∃ k,f k=some r:=by
 unfold lim
 constructor
 ·intro h
  split at h
  ·exact ⟨_,h⟩
  ·cases h
 ·rintro ⟨k,hk⟩
  have hex:∃ k r,f k=some r:=⟨k,r,hk⟩
  rw [dif_pos hex]
  obtain ⟨r',hr'⟩:=Classical.choose_spec hex
  rcases Nat.le_total k (Classical.choose hex) with q|q
  ·exact hm _ _ _ q hk
  ·rw [hr',← hk]
   exact (hm _ _ _ q hr').symm
noncomputable def Acall (A:Tab):CallF:=fun g args h=>lim fun k=>acall A k g args h
noncomputable def Arun (A:Tab) (nt:Nat) (c:ACode) (s:St):Option (Ex × St):=lim fun k=>arun (acall A k) (isPure A) nt k c s
noncomputable def Areify (h:Heap) (v:AV):Option AV:=lim fun k=>reify h k v
theorem Acall_iff {g:Nat} {args:List AV} {h:Heap} {r:AV × Heap × List Nat}:Acall A g args h=some r↔∃ k,acall A k g args h=some r :=
 lim_iff fun _ _ r hk hr=>acall_mono hk g args h r hr
theorem Arun_iff {nt:Nat} {c:ACode} {s:St} {r:Ex × St}:Arun A nt c s=some r↔∃ k,arun (acall A k) (isPure A) nt k c s=some r :=
 lim_iff fun _ _ _ hk hr=>arun_mono (acall_mono hk) hk hr
theorem Areify_iff {h:Heap} {v r:AV}:Areify h v=some r↔∃ k,reify h k v=some r :=
 lim_iff fun _ _ _ hk hr=>reify_mono hk hr
theorem Acall_ge (k:Nat):LeF (acall A k) (Acall A):=fun _ _ _ _ h=>Acall_iff.2 ⟨k,h⟩
theorem asteps_lim {nt base:Nat}:∀ {l:List AOper} {e:Env} {h:Heap} {r:Env × Heap × List Rec},asteps (Acall A) (isPure A) nt base l e h=some r↔∃ k,asteps (acall A k) (isPure A) nt base l e h=some r:=by
 intro l e h r
 constructor
 ·induction l generalizing e h r with
  | nil=>intro h;exact ⟨0,h⟩
  | cons o t ih =>
   intro hr
   simp only [asteps] at hr
   split at hr
   ·cases hr
   ·rename_i e1 h1 r1 hq
    simp only [Option.map_eq_some_iff] at hr
    obtain ⟨x,hx,rfl⟩:=hr
    obtain ⟨k,hk⟩:=ih hx
    have:∃ k,astep (acall A k) (isPure A) nt base o e h=some (e1,h1,r1):=by
     unfold astep at hq ⊢
     split at hq
     ·cases hq
     ·exact ⟨0,hq⟩
     ·split at hq
      ·cases hq
      ·rename_i v h' r' hs
       have:∃ k,stepRun (acall A k) (isPure A) base o e h=some (v,h',r'):=by
        by_cases ho:∃ f args,o.op = .call f args
        ·obtain ⟨f,args,ho⟩:=ho
         rw [stepRun_call ho] at hs
         split at hs
         ·rename_i hev
          split at hs
          ·rename_i hc
           obtain ⟨k,hk⟩:=Acall_iff.1 hc
           exact ⟨k,by rw [stepRun_call ho];simp only [hev,hk];exact hs⟩
          ·cases hs
         ·cases hs
        ·have ho:∀ f args,o.op ≠ .call f args:=fun f args q=>ho ⟨f,args,q⟩
         exact ⟨0,by rw [stepRun_other ho] at hs ⊢;exact hs⟩
       obtain ⟨k,hk⟩:=this
       exact ⟨k,by simp only [hk];exact hq⟩
    obtain ⟨m,hm⟩:=this
    refine ⟨max k m,?_⟩
    simp only [asteps,astep_mono (acall_mono (Nat.le_max_right k m)) hm,asteps_mono (acall_mono (Nat.le_max_left k m)) hk,Option.map_some]
 ·rintro ⟨k,hk⟩
  exact asteps_mono (Acall_ge k) hk
theorem aregion_lim {nt:Nat} {d:Bool} {ops:List AOper} {keep:List Nat} {n:Nat} {s s':St}:aregion (Acall A) (isPure A) nt d ops keep n s=some s'↔∃ k,aregion (acall A k) (isPure A) nt d ops keep n s=some s':=by
 constructor
 ·intro h
  unfold aregion at h ⊢
  split at h
  ·cases h
  ·rename_i hq
   obtain ⟨k,hk⟩:=asteps_lim.1 hq
   exact ⟨k,by simp only [hk];exact h⟩
 ·rintro ⟨k,hk⟩
  exact aregion_mono (Acall_ge k) hk
section
variable {nt:Nat}
theorem Arun_skip {s:St}:Arun A nt .skip s=some (.normal,s):=Arun_iff.2 ⟨0,rfl⟩
theorem Arun_exit {s:St} {i:Nat}:Arun A nt (.exit i) s=some (.exit i,s):=Arun_iff.2 ⟨0,rfl⟩
theorem Arun_ret {s:St}:Arun A nt .ret s=some (.ret,s):=Arun_iff.2 ⟨0,rfl⟩
theorem Arun_region {d:Bool} {ops:List AOper} {keep:List Nat} {n:Nat} {s:St}:Arun A nt (.region d ops keep n) s=(aregion (Acall A) (isPure A) nt d ops keep n s).map (.normal,·):=by
 apply Option.ext
 intro r
 simp only [Arun_iff,arun,Option.map_eq_some_iff,aregion_lim]
 constructor
 ·rintro ⟨k,x,hx,rfl⟩;exact ⟨x,⟨k,hx⟩,rfl⟩
 ·rintro ⟨x,⟨k,hx⟩,rfl⟩;exact ⟨k,x,hx,rfl⟩
def andNext (r:Option (Ex × St)) (f:St→Option (Ex × St)):Option (Ex × St) :=
 match r with
 | some (.normal,s')=>f s'
 | r=>r
theorem andNext_some {r:Option (Ex × St)} {f:St→Option (Ex × St)} {y:Ex × St}:andNext r f=some y↔(∃ s',r=some (.normal,s')∧f s'=some y)∨(r=some y∧∀ s',y≠(.normal,s')):=by
 obtain ⟨e,s⟩:=y
 match r with
 | none=>simp [andNext]
 | some (.normal,s') =>
  simp only [andNext,Option.some.injEq,Prod.mk.injEq,true_and,exists_eq_left']
  constructor
  ·intro h;exact .inl h
  ·rintro (h|⟨⟨rfl,rfl⟩,h⟩)
   ·exact h
   ·exact (h _ rfl).elim
 | some (.exit i,s') =>
  simp only [andNext,Option.some.injEq,Prod.mk.injEq,reduceCtorEq,false_and,exists_false,false_or]
  constructor
  ·rintro ⟨rfl,rfl⟩;exact ⟨⟨rfl,rfl⟩,fun _ h=>by cases h⟩
  ·exact fun h=>h.1
 | some (.ret,s') =>
  simp only [andNext,Option.some.injEq,Prod.mk.injEq,reduceCtorEq,false_and,exists_false,false_or]
  constructor
  ·rintro ⟨rfl,rfl⟩;exact ⟨⟨rfl,rfl⟩,fun _ h=>by cases h⟩
  ·exact fun h=>h.1
theorem Arun_up {c:ACode} {s:St} {r:Ex × St} {k m:Nat} (h:k≤m) (hr:arun (acall A k) (isPure A) nt k c s=some r):arun (acall A m) (isPure A) nt m c s=some r:=arun_mono (acall_mono h) h hr
theorem arun_seq {cf:CallF} {pu:PureF} {fuel:Nat} {a b:ACode} {s:St}:arun cf pu nt fuel (.seq a b) s=andNext (arun cf pu nt fuel a s) (arun cf pu nt fuel b):=rfl
theorem Arun_seq {a b:ACode} {s:St}:Arun A nt (.seq a b) s=andNext (Arun A nt a s) (Arun A nt b):=by
 apply Option.ext
 intro r
 rw [Arun_iff,andNext_some]
 simp only [arun_seq,andNext_some]
 constructor
 ·rintro ⟨k,⟨s',h1,h2⟩|⟨h1,h2⟩⟩
  ·exact .inl ⟨s',Arun_iff.2 ⟨k,h1⟩,Arun_iff.2 ⟨k,h2⟩⟩
  ·exact .inr ⟨Arun_iff.2 ⟨k,h1⟩,h2⟩
 ·rintro (⟨s',h1,h2⟩|⟨h1,h2⟩)
  ·obtain ⟨k,hk⟩:=Arun_iff.1 h1
   obtain ⟨m,hm⟩:=Arun_iff.1 h2
   exact ⟨max k m,.inl ⟨s',Arun_up (Nat.le_max_left k m) hk,Arun_up (Nat.le_max_right k m) hm⟩⟩
  ·obtain ⟨k,hk⟩:=Arun_iff.1 h1
   exact ⟨k,.inr ⟨hk,h2⟩⟩
theorem Arun_cond {c:AO} {a b:ACode} {s:St}:Arun A nt (.cond c a b) s=match ev s.env c with
  | .bool true=>Arun A nt a s
  | .bool false=>Arun A nt b s
  | _=>none:=by
 apply Option.ext
 intro r
 rw [Arun_iff]
 simp only [arun]
 generalize ev s.env c=q
 split
 ·rw [Arun_iff]
 ·rw [Arun_iff]
 ·simp
def unBlock (id:Nat):Ex × St→Ex × St
 | (.exit i,s)=>if i=id then (.normal,s) else (.exit i,s)
 | r=>r
theorem arun_block {cf:CallF} {pu:PureF} {fuel:Nat} {id:Nat} {b:ACode} {s:St}:arun cf pu nt fuel (.block id b) s=(arun cf pu nt fuel b s).map (unBlock id):=by
 simp only [arun]
 cases arun cf pu nt fuel b s with
 | none=>rfl
 | some y =>
  obtain ⟨e,s'⟩:=y
  cases e with
  | normal=>rfl
  | ret=>rfl
  | exit i=>simp only [Option.map_some,unBlock];split<;>rfl
theorem Arun_block {id:Nat} {b:ACode} {s:St}:Arun A nt (.block id b) s=(Arun A nt b s).map (unBlock id):=by
 apply Option.ext
 intro r
 simp only [Arun_iff,arun_block,Option.map_eq_some_iff]
 constructor
 ·rintro ⟨k,x,h,hx⟩;exact ⟨x,⟨k,h⟩,hx⟩
 ·rintro ⟨x,⟨k,h⟩,hx⟩;exact ⟨k,x,h,hx⟩
theorem Arun_loop {b:ACode} {s:St}:Arun A nt (.loop b) s=andNext (Arun A nt b s) (Arun A nt (.loop b)):=by
 have step:∀ (f:St→Option (Ex × St)) n s,aloop f (n+1) s=andNext (f s) (aloop f n):=fun _ _ _=>rfl
 apply Option.ext
 intro r
 rw [Arun_iff,andNext_some]
 simp only [arun]
 constructor
 ·rintro ⟨k,hk⟩
  match k,hk with
  | k+1,hk =>
   rw [step,andNext_some] at hk
   rcases hk with ⟨s',h1,h2⟩|⟨h1,h2⟩
   ·refine .inl ⟨s',Arun_iff.2 ⟨k+1,h1⟩,Arun_iff.2 ⟨k+1,?_⟩⟩
    simp only [arun,step,andNext_some]
    have up:∀ (n m:Nat) (s:St),n≤m→aloop (arun (acall A (k+1)) (isPure A) nt (k+1) b) n s=some r→aloop (arun (acall A (k+1)) (isPure A) nt (k+1) b) m s=some r:=by
     intro n
     induction n with
     | zero=>intro m s _ h;cases h
     | succ n ihn =>
      intro m s hm h
      obtain ⟨m',rfl⟩:∃ m',m=m'+1:=⟨m - 1,by omega⟩
      rw [step,andNext_some] at h ⊢
      rcases h with ⟨s1,g1,g2⟩|h
      ·exact .inl ⟨s1,g1,ihn m' s1 (by omega) g2⟩
      ·exact .inr h
    have:=up k (k+1) s' (by omega) h2
    rw [step,andNext_some] at this
    exact this
   ·exact .inr ⟨Arun_iff.2 ⟨k+1,h1⟩,h2⟩
 ·rintro (⟨s',h1,h2⟩|⟨h1,h2⟩)
  ·obtain ⟨k,hk⟩:=Arun_iff.1 h1
   obtain ⟨m,hm⟩:=Arun_iff.1 h2
   have hm':arun (acall A (max k m)) (isPure A) nt (max k m) (.loop b) s'=some r:=Arun_up (Nat.le_max_right k m) hm
   have hk':=Arun_up (c:=b) (r:=(.normal,s')) (nt:=nt) (Nat.le_trans (Nat.le_max_left k m) (Nat.le_succ _)) hk
   refine ⟨max k m+1,?_⟩
   rw [step,andNext_some]
   refine .inl ⟨s',hk',?_⟩
   have:=arun_mono (acall_mono (A:=A) (Nat.le_succ (max k m))) (Nat.le_refl (max k m)) hm'
   simp only [arun] at this
   have up:∀ (n:Nat) (s:St),aloop (arun (acall A (max k m+1)) (isPure A) nt (max k m) b) n s=some r→aloop (arun (acall A (max k m+1)) (isPure A) nt (max k m+1) b) n s=some r:=by
    intro n
    induction n with
    | zero=>intro s h;cases h
    | succ n ihn =>
     intro s h
     rw [step,andNext_some] at h ⊢
     rcases h with ⟨s1,g1,g2⟩|⟨g1,g2⟩
     ·exact .inl ⟨s1,arun_mono (fun _ _ _ _ h=>h) (Nat.le_succ _) g1,ihn s1 g2⟩
     ·exact .inr ⟨arun_mono (fun _ _ _ _ h=>h) (Nat.le_succ _) g1,g2⟩
   exact up _ _ this
  ·obtain ⟨k,hk⟩:=Arun_iff.1 h1
   refine ⟨k+1,?_⟩
   rw [step,andNext_some]
   exact .inr ⟨Arun_up (Nat.le_succ k) hk,h2⟩
end
noncomputable def Abody (A:Tab) (f:AFn) (args:List AV) (h:Heap):Option (AV × Heap × List Nat) :=
 match Arun A f.nt f.body ⟨fun t=>args.getD t .undef,h,[]⟩ with
 | some (.exit _,_)=>none
 | some (_,s)=>(aresults s.env s.heap f.res).map fun v=>(v,s.heap,s.log)
 | none=>none
theorem Abody_iff {f:AFn} {args:List AV} {h:Heap} {r:AV × Heap × List Nat}:Abody A f args h=some r↔∃ k,abody A (acall A k) k f args h=some r:=by
 unfold Abody abody
 constructor
 ·intro hr
  cases hx:Arun A f.nt f.body ⟨fun t=>args.getD t .undef,h,[]⟩ with
  | none=>rw [hx] at hr;cases hr
  | some y =>
   rw [hx] at hr
   obtain ⟨k,hk⟩:=Arun_iff.1 hx
   exact ⟨k,by rw [hk];exact hr⟩
 ·rintro ⟨k,hk⟩
  cases hx:arun (acall A k) (isPure A) f.nt k f.body ⟨fun t=>args.getD t .undef,h,[]⟩ with
  | none=>rw [hx] at hk;cases hk
  | some y =>
   rw [hx] at hk
   rw [Arun_iff.2 ⟨k,hx⟩]
   exact hk
theorem Acall_pure {g:Nat} {f:AFn} (hf:A g=some f) (he:f.ext=none) (hp:(f.mode != 0)=true) (h3:(f.mode == 3)=false) {args:List AV} (hn:args.length=f.np) (hi:imm.immL args=true) {h h':Heap} {v v':AV} {l:List Nat}
  (hb:Abody A f (strip.stripL args) []=some (v,h',l)) (hr:Areify h' v=some v'):Acall A g args h=some (v',h,[]):=by
 obtain ⟨k,hk⟩:=Abody_iff.1 hb
 obtain ⟨m,hm⟩:=Areify_iff.1 hr
 refine Acall_iff.2 ⟨max k m+1,?_⟩
 rw [acall]
 simp only [hf,he,hn,hp,hi,h3,aown,Bool.and_self,Bool.false_and,Bool.false_eq_true,ne_eq,not_true_eq_false,if_false,if_true,abody_mono (acall_mono (Nat.le_max_left k m)) (Nat.le_max_left k m) hk,reify_mono (Nat.le_max_right k m) hm,Option.map_some]
theorem Acall_some {g:Nat} {f:AFn} (hf:A g=some f) (he:f.ext=none) (hp:(f.mode != 0)=true) {args:List AV} (hn:args.length=f.np) (hi:imm.immL args=true) (h3:noElems args=false) {h h':Heap} {v v':AV} {l:List Nat}
  (hb:Abody A f (strip.stripL args) []=some (v,h',l)) (hr:Areify h' v=some v'):Acall A g args h=some (v',h,[]):=by
 obtain ⟨k,hk⟩:=Abody_iff.1 hb
 obtain ⟨m,hm⟩:=Areify_iff.1 hr
 refine Acall_iff.2 ⟨max k m+1,?_⟩
 rw [acall]
 simp only [hf,he,hn,hp,hi,h3,aown,Bool.and_self,Bool.and_false,Bool.false_eq_true,ne_eq,not_true_eq_false,if_false,if_true,abody_mono (acall_mono (Nat.le_max_left k m)) (Nat.le_max_left k m) hk,reify_mono (Nat.le_max_right k m) hm,Option.map_some]
theorem Acall_none {g:Nat} {f:AFn} (hf:A g=some f) (he:f.ext=none) (hp:(f.mode == 3)=true) {args:List AV} (hn:args.length=f.np) (hi:imm.immL args=true) (h3:noElems args=true) {h h1 h2:Heap} {v1 v2 u1 u2 v:AV} {l1 l2:List Nat}
  (hb1:Abody A f (.is [] .nil :: (strip.stripL args).tail) []=some (v1,h1,l1)) (hr1:Areify h1 v1=some u1)
  (hb2:Abody A f (.is [] .nn :: (strip.stripL args).tail) []=some (v2,h2,l2)) (hr2:Areify h2 v2=some u2) (hs:same2 u1 u2=some v):Acall A g args h=some (v,h,[]):=by
 obtain ⟨k1,hk1⟩:=Abody_iff.1 hb1
 obtain ⟨m1,hm1⟩:=Areify_iff.1 hr1
 obtain ⟨k2,hk2⟩:=Abody_iff.1 hb2
 obtain ⟨m2,hm2⟩:=Areify_iff.1 hr2
 have a1:k1≤max (max k1 m1) (max k2 m2):=by omega
 have a2:m1≤max (max k1 m1) (max k2 m2):=by omega
 have a3:k2≤max (max k1 m1) (max k2 m2):=by omega
 have a4:m2≤max (max k1 m1) (max k2 m2):=by omega
 generalize max (max k1 m1) (max k2 m2)=k at *
 have hp':(f.mode != 0)=true:=by
  have:f.mode=3:=by simpa using hp
  rw [this];rfl
 refine Acall_iff.2 ⟨k+1,?_⟩
 rw [acall]
 simp only [hf,he,hn,hp,hp',hi,h3,aboth,aown,Bool.and_self,ne_eq,not_true_eq_false,if_false,if_true,abody_mono (acall_mono a1) a1 hk1,reify_mono a2 hm1,abody_mono (acall_mono a3) a3 hk2,reify_mono a4 hm2,hs,Option.map_some]
theorem Acall_ext {g:Nat} {f:AFn} {F:List AV→Option AV} (hf:A g=some f) (he:f.ext=some F) (hp:(f.mode != 0)=true) (h3:(f.mode == 3)=false) {args:List AV} (hn:args.length=f.np) (hi:imm.immL args=true) {h:Heap} {v:AV}
  (hb:F (strip.stripL args)=some v):Acall A g args h=some (v,h,[]):=by
 refine Acall_iff.2 ⟨1,?_⟩
 rw [acall]
 simp only [hf,he,hn,hp,hi,h3,aown,hb,Bool.and_self,Bool.false_and,Bool.false_eq_true,ne_eq,not_true_eq_false,if_false,if_true,Option.map_some]
theorem Acall_over {g:Nat} {f:AFn} {args:List AV} (hf:A g=some f) (hp:(f.mode != 0 && imm.immL args)=false) (hp2:(f.mode == 2)=false) (hn:args.length=f.np) {h h':Heap} {v:AV} {l:List Nat}
  (hb:Abody A f args h=some (v,h',l)):Acall A g args h=some (v,h',l.filter (·<h.length)):=by
 obtain ⟨k,hk⟩:=Abody_iff.1 hb
 refine Acall_iff.2 ⟨k+1,?_⟩
 rw [acall]
 simp only [hf,hn,hp,hp2,ne_eq,not_true_eq_false,if_false,Bool.false_eq_true,hk]
end Go.AM
