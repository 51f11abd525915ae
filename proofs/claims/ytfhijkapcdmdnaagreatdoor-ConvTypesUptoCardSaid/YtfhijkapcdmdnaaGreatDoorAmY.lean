/- A block that nobody may touch: what runs beside one that is still free runs beside whatever stands there, and leaves it alone. -/
import Derived.Test.YtfhijkapcdmdnaaGreatDoorAmA
namespace Go.AM
theorem HC.grow (j:Nat) (b:Blk):∀ (c:HC) (slot:Nat) (h:Heap) (v:AV) (h':Heap),c.run slot h=some (v,h')→h[j]?=some .free→j≠slot →
  c.run slot (h.set j b)=some (v,h'.set j b)∧h'[j]?=some .free∧c.rds slot (h.set j b)=c.rds slot h∧c.wrs slot (h.set j b)=c.wrs slot h∧j ∉ c.wrs slot h∧h'.length=h.length:=by
 intro c
 induction c with
 | fail=>intro slot h v h' q;cases q
 | done x =>
  intro slot h v h' q hj hs
  simp only [HC.run,Option.some.injEq,Prod.mk.injEq] at q
  obtain ⟨rfl,rfl⟩:=q
  exact ⟨rfl,hj,rfl,rfl,by simp [HC.wrs],rfl⟩
 | rd id k ih =>
  intro slot h v h' q hj hs
  simp only [HC.run] at q
  cases hb:h[id]? with
  | none=>rw [hb] at q;cases q
  | some x =>
   rw [hb] at q
   simp only at q
   have hf:x.isFree=false:=by
    cases hx:x.isFree with
    | false=>rfl
    | true=>rw [hx] at q;cases q
   rw [hf] at q
   have hne:j≠id:=fun e=>by
    subst e
    rw [hj] at hb
    cases hb
    cases hf
   have hb2:(h.set j b)[id]?=some x:=by rw [List.getElem?_set_ne hne];exact hb
   obtain ⟨g1,g2,g3,g4,g5,g6⟩:=ih x slot h v h' q hj hs
   refine ⟨?_,g2,?_,?_,?_,g6⟩
   ·simp only [HC.run,hb2,hf];exact g1
   ·simp only [HC.rds,hb2,hb,g3]
   ·simp only [HC.wrs,hb2,hb,g4]
   ·simp only [HC.wrs,hb];exact g5
 | wr id x k ih =>
  intro slot h v h' q hj hs
  simp only [HC.run] at q
  cases hb:h[id]? with
  | none=>rw [hb] at q;cases q
  | some y =>
   rw [hb] at q
   simp only at q
   have hf:y.isFree=false:=by
    cases hx:y.isFree with
    | false=>rfl
    | true=>rw [hx] at q;cases q
   rw [hf] at q
   have hne:j≠id:=fun e=>by
    subst e
    rw [hj] at hb
    cases hb
    cases hf
   have hb2:(h.set j b)[id]?=some y:=by rw [List.getElem?_set_ne hne];exact hb
   have hcm:(h.set j b).set id x=(h.set id x).set j b:=List.set_comm _ _ hne
   obtain ⟨g1,g2,g3,g4,g5,g6⟩:=ih slot (h.set id x) v h' q (by rw [List.getElem?_set_ne (Ne.symm hne)];exact hj) hs
   refine ⟨?_,g2,?_,?_,?_,by rw [g6,List.length_set]⟩
   ·simp only [HC.run,hb2,hf,hcm];exact g1
   ·simp only [HC.rds,hcm,g3]
   ·simp only [HC.wrs,hcm,g4]
   ·simp only [HC.wrs,List.mem_cons,not_or];exact ⟨hne,g5⟩
 | new x k ih =>
  intro slot h v h' q hj hs
  simp only [HC.run] at q
  cases hb:h[slot]? with
  | none=>rw [hb] at q;cases q
  | some y =>
   rw [hb] at q
   simp only at q
   have hf:y.isFree=true:=by
    cases hx:y.isFree with
    | true=>rfl
    | false=>rw [hx] at q;cases q
   rw [hf] at q
   have hb2:(h.set j b)[slot]?=some y:=by rw [List.getElem?_set_ne hs];exact hb
   have hcm:(h.set j b).set slot x=(h.set slot x).set j b:=List.set_comm _ _ hs
   obtain ⟨g1,g2,g3,g4,g5,g6⟩:=ih slot (h.set slot x) v h' q (by rw [List.getElem?_set_ne (Ne.symm hs)];exact hj) hs
   refine ⟨?_,g2,?_,?_,?_,by rw [g6,List.length_set]⟩
   ·simp only [HC.run,hb2,hf,hcm];exact g1
   ·simp only [HC.rds,hcm,g3]
   ·simp only [HC.wrs,hcm,g4]
   ·simp only [HC.wrs,List.mem_cons,not_or];exact ⟨hs,g5⟩
def CallGrow (cf:CallF):Prop:=∀ g args h v h' w,cf g args h=some (v,h',w)→∀ j,h[j]?=some .free→∀ b,cf g args (h.set j b)=some (v,h'.set j b,w)∧h'[j]?=some .free∧j ∉ w
theorem stepRun_grow {cf:CallF} (hc:CallGrow cf) (pu:PureF) {base:Nat} {o:AOper} {env:Env} {h h':Heap} {v:AV} {r:Rec} (q:stepRun cf pu base o env h=some (v,h',r)) {j:Nat} (hj:h[j]?=some .free) (hlt:j<base) (b:Blk) :
  stepRun cf pu base o env (h.set j b)=some (v,h'.set j b,r)∧h'[j]?=some .free∧j ∉ r.log:=by
 unfold stepRun at q ⊢
 split at q
 ·rename_i f args hop
  split at q
  ·rename_i g first caps hev
   split at q
   ·rename_i v2 h2 w hcall
    obtain ⟨g1,g2,g3⟩:=hc _ _ _ _ _ _ hcall j hj b
    simp only [Option.some.injEq,Prod.mk.injEq] at q
    obtain ⟨rfl,rfl,rfl⟩:=q
    simp only [g1,List.length_set]
    refine ⟨trivial,g2,?_⟩
    split
    ·simp [Rec.log]
    ·exact g3
   ·cases q
  ·cases q
 ·rename_i hop
  split at q
  ·rename_i v2 h2 hrun
   obtain ⟨g1,g2,g3,g4,g5,_⟩:=HC.grow j b _ _ _ _ _ hrun hj (by omega)
   simp only [Option.some.injEq,Prod.mk.injEq] at q
   obtain ⟨rfl,rfl,rfl⟩:=q
   simp only [g1,g3,g4]
   exact ⟨trivial,g2,g5⟩
  ·cases q
theorem astep_grow {cf:CallF} (hc:CallGrow cf) (pu:PureF) {nt base:Nat} {o:AOper} {env e:Env} {h h':Heap} {r:Rec} (q:astep cf pu nt base o env h=some (e,h',r)) {j:Nat} (hj:h[j]?=some .free) (hlt:j<base) (b:Blk) :
  astep cf pu nt base o env (h.set j b)=some (e,h'.set j b,r)∧h'[j]?=some .free∧j ∉ r.log:=by
 unfold astep at q ⊢
 cases hw:wanted env o.guard with
 | none=>rw [hw] at q;cases q
 | some t =>
  rw [hw] at q
  cases t with
  | false =>
   simp only at q ⊢
   obtain ⟨e2,h1,h2⟩:=Option.map_eq_some_iff.1 q
   simp only [Prod.mk.injEq] at h2
   obtain ⟨rfl,rfl,rfl⟩:=h2
   rw [h1]
   exact ⟨rfl,hj,by simp [Rec.log]⟩
  | true =>
   simp only at q ⊢
   split at q
   ·cases q
   ·rename_i v2 h2 r2 hrun
    obtain ⟨g1,g2,g3⟩:=stepRun_grow hc pu hrun hj hlt b
    obtain ⟨e2,k1,k2⟩:=Option.map_eq_some_iff.1 q
    simp only [Prod.mk.injEq] at k2
    obtain ⟨rfl,rfl,rfl⟩:=k2
    simp only [g1,k1]
    exact ⟨rfl,g2,g3⟩
theorem asteps_grow {cf:CallF} (hc:CallGrow cf) (pu:PureF) {nt base:Nat} {j:Nat} (hlt:j<base) (b:Blk):∀ (l:List AOper) (env e:Env) (h h':Heap) (rs:List Rec),asteps cf pu nt base l env h=some (e,h',rs)→h[j]?=some .free →
  asteps cf pu nt base l env (h.set j b)=some (e,h'.set j b,rs)∧h'[j]?=some .free∧∀ r ∈ rs,j ∉ r.log:=by
 intro l
 induction l with
 | nil =>
  intro env e h h' rs q hj
  simp only [asteps,Option.some.injEq,Prod.mk.injEq] at q
  obtain ⟨rfl,rfl,rfl⟩:=q
  exact ⟨rfl,hj,fun r hr=>by cases hr⟩
 | cons o rest ih =>
  intro env e h h' rs q hj
  simp only [asteps] at q ⊢
  split at q
  ·cases q
  ·rename_i e2 h2 r2 hstep
   obtain ⟨g1,g2,g3⟩:=astep_grow hc pu hstep hj hlt b
   obtain ⟨⟨x1,x2,x3⟩,k1,k2⟩:=Option.map_eq_some_iff.1 q
   simp only [Prod.mk.injEq] at k2
   obtain ⟨rfl,rfl,rfl⟩:=k2
   obtain ⟨m1,m2,m3⟩:=ih _ _ _ _ _ k1 g2
   simp only [g1,m1]
   refine ⟨rfl,m2,fun r hr=>?_⟩
   rcases List.mem_cons.1 hr with rfl|hr
   ·exact g3
   ·exact m3 r hr
theorem addLog_in {x:Nat}:∀ (a l:List Nat),x ∈ addLog a l→x ∈ a∨x ∈ l:=by
 intro a
 induction a with
 | nil=>intro l h;exact .inr h
 | cons y r ih =>
  intro l h
  simp only [addLog] at h
  rcases ih _ h with h|h
  ·exact .inl (by simp [h])
  ·split at h
   ·exact .inr h
   ·rcases List.mem_cons.1 h with rfl|h
    ·exact .inl (by simp)
    ·exact .inr h
theorem logOf_in {x:Nat}:∀ (rs:List Rec) (l:List Nat),x ∈ logOf rs l→(∃ r ∈ rs,x ∈ r.log)∨x ∈ l:=by
 intro rs
 induction rs with
 | nil=>intro l h;exact .inr h
 | cons r rest ih =>
  intro l h
  simp only [logOf] at h
  rcases ih _ h with ⟨s,hs,hx⟩|h
  ·exact .inl ⟨s,by simp [hs],hx⟩
  ·rcases addLog_in _ _ h with h|h
   ·exact .inl ⟨r,by simp,h⟩
   ·exact .inr h
def St.with (s:St) (j:Nat) (b:Blk):St:=⟨s.env,s.heap.set j b,s.log⟩
def StGrow (f:St→Option (Ex × St)):Prop:=∀ s r s',f s=some (r,s')→∀ j,s.heap[j]?=some .free→j ∉ s.log→∀ b,f (s.with j b)=some (r,s'.with j b)∧s'.heap[j]?=some .free∧j ∉ s'.log
theorem aregion_grow {cf:CallF} (hc:CallGrow cf) (pu:PureF) {nt:Nat} {d:Bool} {ops:List AOper} {keep:List Nat} {slots:Nat} {s s':St} (q:aregion cf pu nt d ops keep slots s=some s') {j:Nat} (hj:s.heap[j]?=some .free) (hl:j ∉ s.log) (b:Blk) :
  aregion cf pu nt d ops keep slots (s.with j b)=some (s'.with j b)∧s'.heap[j]?=some .free∧j ∉ s'.log:=by
 have hlt:=(List.getElem?_eq_some_iff.1 hj).1
 unfold aregion at q ⊢
 have e:(s.with j b).heap ++ List.replicate slots Blk.free=(s.heap ++ List.replicate slots Blk.free).set j b:=by
  unfold St.with
  rw [List.set_append_left _ _ hlt]
 have el:(s.with j b).heap.length=s.heap.length:=by unfold St.with;exact List.length_set ..
 have ee:(s.with j b).env=s.env:=rfl
 have eg:(s.with j b).log=s.log:=rfl
 rw [e,el,ee,eg]
 split at q
 ·cases q
 ·rename_i e2 h2 rs hs
  obtain ⟨g1,g2,g3⟩:=asteps_grow hc pu hlt b _ _ _ _ _ _ hs (by rw [List.getElem?_append_left hlt];exact hj)
  rw [g1]
  simp only
  split at q
  ·rename_i hd
   simp only [Option.some.injEq] at q
   subst q
   rw [if_pos hd]
   refine ⟨rfl,g2,fun hx=>?_⟩
   rcases logOf_in _ _ hx with ⟨r,hr,hx⟩|hx
   ·exact g3 r hr hx
   ·exact hl hx
  ·cases q
theorem aloop_grow {f:St→Option (Ex × St)} (hf:StGrow f):∀ n,StGrow (aloop f n):=by
 intro n
 induction n with
 | zero=>intro s r s' q;cases q
 | succ n ih =>
  intro s r s' q j hj hl b
  simp only [aloop] at q ⊢
  split at q
  ·rename_i s2 hs
   obtain ⟨g1,g2,g3⟩:=hf _ _ _ hs j hj hl b
   simp only [g1]
   exact ih _ _ _ q j g2 g3 b
  ·rename_i hne
   obtain ⟨g1,g2,g3⟩:=hf _ _ _ q j hj hl b
   cases r with
   | normal=>exact absurd q (hne _)
   | exit i=>simp only [g1];exact ⟨trivial,g2,g3⟩
   | ret=>simp only [g1];exact ⟨trivial,g2,g3⟩
theorem arun_grow {cf:CallF} (hc:CallGrow cf) (pu:PureF) (nt fuel:Nat):∀ (c:ACode),StGrow (arun cf pu nt fuel c):=by
 intro c
 induction c with
 | skip=>intro s r s' q j hj hl b;simp only [arun,Option.some.injEq,Prod.mk.injEq] at q ⊢;obtain ⟨rfl,rfl⟩:=q;exact ⟨⟨rfl,rfl⟩,hj,hl⟩
 | region d ops keep slots =>
  intro s r s' q j hj hl b
  simp only [arun] at q ⊢
  obtain ⟨x,h1,h2⟩:=Option.map_eq_some_iff.1 q
  simp only [Prod.mk.injEq] at h2
  obtain ⟨rfl,rfl⟩:=h2
  obtain ⟨g1,g2,g3⟩:=aregion_grow hc pu h1 hj hl b
  rw [g1]
  exact ⟨rfl,g2,g3⟩
 | seq x y ihx ihy =>
  intro s r s' q j hj hl b
  simp only [arun] at q ⊢
  split at q
  ·rename_i s2 hs
   obtain ⟨g1,g2,g3⟩:=ihx _ _ _ hs j hj hl b
   simp only [g1]
   exact ihy _ _ _ q j g2 g3 b
  ·rename_i hne
   obtain ⟨g1,g2,g3⟩:=ihx _ _ _ q j hj hl b
   cases r with
   | normal=>exact absurd q (hne _)
   | exit i=>simp only [g1];exact ⟨trivial,g2,g3⟩
   | ret=>simp only [g1];exact ⟨trivial,g2,g3⟩
 | cond t x y ihx ihy =>
  intro s r s' q j hj hl b
  have ee:(s.with j b).env=s.env:=rfl
  simp only [arun,ee] at q ⊢
  split at q
  ·exact ihx _ _ _ q j hj hl b
  ·exact ihy _ _ _ q j hj hl b
  ·cases q
 | block id x ih =>
  intro s r s' q j hj hl b
  simp only [arun] at q ⊢
  split at q
  ·rename_i i s2 hs
   obtain ⟨g1,g2,g3⟩:=ih _ _ _ hs j hj hl b
   simp only [g1]
   split at q
   ·rename_i hi
    simp only [Option.some.injEq,Prod.mk.injEq] at q
    obtain ⟨rfl,rfl⟩:=q
    rw [if_pos hi]
    exact ⟨rfl,g2,g3⟩
   ·rename_i hi
    simp only [Option.some.injEq,Prod.mk.injEq] at q
    obtain ⟨rfl,rfl⟩:=q
    rw [if_neg hi]
    exact ⟨rfl,g2,g3⟩
  ·rename_i hne
   obtain ⟨g1,g2,g3⟩:=ih _ _ _ q j hj hl b
   cases r with
   | exit i=>exact absurd q (hne _ _)
   | normal=>simp only [g1];exact ⟨trivial,g2,g3⟩
   | ret=>simp only [g1];exact ⟨trivial,g2,g3⟩
 | loop x ih=>intro s r s' q j hj hl b;simp only [arun] at q ⊢;exact aloop_grow ih fuel _ _ _ q j hj hl b
 | exit id=>intro s r s' q j hj hl b;simp only [arun,Option.some.injEq,Prod.mk.injEq] at q ⊢;obtain ⟨rfl,rfl⟩:=q;exact ⟨⟨rfl,rfl⟩,hj,hl⟩
 | ret=>intro s r s' q j hj hl b;simp only [arun,Option.some.injEq,Prod.mk.injEq] at q ⊢;obtain ⟨rfl,rfl⟩:=q;exact ⟨⟨rfl,rfl⟩,hj,hl⟩
 | stuck=>intro s r s' q;cases q
theorem mapM_gro {α β:Type} {f g:α→Option β} (hfg:∀ x y,f x=some y→g x=some y):∀ {l:List α} {m:List β},l.mapM f=some m→l.mapM g=some m:=by
 intro l
 induction l with
 | nil=>intro m h;simpa using h
 | cons x r ih =>
  intro m h
  rw [List.mapM_cons] at h ⊢
  simp only [Option.bind_eq_bind,Option.bind_eq_some_iff,Option.pure_def,Option.some.injEq] at h ⊢
  obtain ⟨y,hy,m',hm',rfl⟩:=h
  exact ⟨y,hfg _ _ hy,m',ih hm',rfl⟩
theorem ares_grow {env:Env} {h:Heap} {j:Nat} (hj:h[j]?=some .free) (b:Blk) (x:ARes) (y:AV) (q:ares env h x=some y):ares env (h.set j b) x=some y:=by
 cases x with
 | tmp t=>exact q
 | cell a agg size =>
  simp only [ares] at q ⊢
  split at q
  ·rename_i id off he
   split at q
   ·rename_i cs hb
    have hne:j≠id:=fun e=>by subst e;rw [hj] at hb;cases hb
    rw [List.getElem?_set_ne hne,hb]
    exact q
   ·cases q
  ·exact q
  ·cases q
theorem aresults_grow {env:Env} {h:Heap} {j:Nat} (hj:h[j]?=some .free) (b:Blk) (l:List ARes) (y:AV) (q:aresults env h l=some y):aresults env (h.set j b) l=some y:=by
 unfold aresults at q ⊢
 cases hm:l.mapM (ares env h) with
 | none=>rw [hm] at q;cases q
 | some vs =>
  rw [hm] at q
  rw [mapM_gro (fun x y=>ares_grow hj b x y) hm]
  exact q
theorem acall_grow (A:Tab):∀ k,CallGrow (acall A k):=by
 intro k
 induction k with
 | zero=>intro g args h v h' w q;cases q
 | succ k ih =>
  intro g args h v h' w q j hj b
  simp only [acall] at q ⊢
  split at q
  ·cases q
  ·rename_i f hf
   split at q
   ·cases q
   ·rename_i hn
    rw [if_neg hn]
    split at q
    ·rename_i hm
     rw [if_pos hm]
     obtain ⟨x,h1,h2⟩:=Option.map_eq_some_iff.1 q
     simp only [Prod.mk.injEq] at h2
     obtain ⟨rfl,rfl,rfl⟩:=h2
     rw [h1]
     exact ⟨rfl,hj,by simp⟩
    ·rename_i hm
     rw [if_neg hm]
     split at q
     ·cases q
     ·rename_i hm2
      rw [if_neg hm2]
      split at q
      ·rename_i v2 h2 w2 hb
       simp only [Option.some.injEq,Prod.mk.injEq] at q
       obtain ⟨rfl,rfl,rfl⟩:=q
       unfold abody at hb ⊢
       split at hb
       ·cases hb
       ·rename_i ex s2 hne hr
        obtain ⟨y,k1,k2⟩:=Option.map_eq_some_iff.1 hb
        simp only [Prod.mk.injEq] at k2
        obtain ⟨rfl,rfl,rfl⟩:=k2
        obtain ⟨g1,g2,g3⟩:=arun_grow ih (isPure A) f.nt k f.body _ _ _ hr j hj (by simp) b
        have g1':arun (acall A k) (isPure A) f.nt k f.body ⟨fun t=>args.getD t .undef,h.set j b,[]⟩=some (ex,s2.with j b):=g1
        rw [g1']
        cases ex with
        | exit i=>exact (hne i rfl).elim
        | normal =>
         simp only [aresults_grow g2 b _ _ k1,St.with,Option.map_some,List.length_set]
         exact ⟨trivial,g2,fun hx=>g3 (List.mem_filter.1 hx).1⟩
        | ret =>
         simp only [aresults_grow g2 b _ _ k1,St.with,Option.map_some,List.length_set]
         exact ⟨trivial,g2,fun hx=>g3 (List.mem_filter.1 hx).1⟩
       ·cases hb
      ·cases q
end Go.AM
