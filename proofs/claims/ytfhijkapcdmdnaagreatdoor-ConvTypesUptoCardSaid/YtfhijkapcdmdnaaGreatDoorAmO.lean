/- The abstract machine: code, and calls: what 'acall' answers is what the model's call comes to. -/
import Derived.Test.YtfhijkapcdmdnaaGreatDoorAmN
import Derived.LoopN
import Derived.Scope
namespace Go.AM
variable {G:GTab}
def Ex.toExit:Ex→Exit
 | .normal => .normal
 | .exit id => .exit id
 | .ret => .ret
theorem free_get {h:Heap} {n:Nat} {i:Nat} {b:Blk} (hb:(h ++ List.replicate n Blk.free)[i]?=some b):h[i]?=some b∨b = .free:=by
 rw [List.getElem?_append] at hb
 split at hb
 ·exact .inl hb
 ·right
  rw [List.getElem?_replicate] at hb
  split at hb
  ·cases hb;rfl
  ·cases hb
theorem SR.extend {w:World} {phi:Phi} {im:Imm} {h:Heap} (s:SR w phi im h) (n:Nat):SR w phi im (h ++ List.replicate n .free) where
 dom id p hp:=by
  obtain ⟨b,hb,hf⟩:=s.dom id p hp
  exact ⟨b,by rw [List.getElem?_append_left (set_lt hb)];exact hb,hf⟩
 lt:=s.lt
 imlt:=s.imlt
 cells id cs hc:=(free_get hc).elim (s.cells id cs) fun q=>by cases q
 map id es ck hc:=(free_get hc).elim (s.map id es ck) fun q=>by cases q
 tok id hc:=(free_get hc).elim (s.tok id) fun q=>by cases q
 inj i j p q li lj:=by
  have back:∀ k,live (h ++ List.replicate n .free) k→live h k:=by
   rintro k ⟨b,hb,hk⟩
   rcases free_get hb with g|rfl
   ·exact ⟨b,g,hk⟩
   ·rcases hk with ⟨_,g⟩|⟨_,_,g⟩|g<;>cases g
  exact s.inj i j p q (back i li) (back j lj)
theorem FR.none {cf:CallF} {pu:PureF} {nt base:Nat} {S:Nat→Bool}:∀ (T:List (AOper × Rec)) (i:Nat) (e:Env) (h:Heap),(∀ j,i≤j→j<i+T.length→S j=false)→FR cf pu nt base S i T e h e h:=by
 intro T
 induction T with
 | nil=>intro i e h _;exact .nil i e h
 | cons p t ih =>
  intro i e h hS
  obtain ⟨o,r⟩:=p
  exact .off i o r t e h e h (hS i (Nat.le_refl _) (by simp)) (ih (i+1) e h fun j h1 h2=>hS j (by omega) (by simp;omega))
section
variable {P:Program} {cf:CallF} {pu:PureF} {nt:Nat}
theorem ER.prune {w:World} {phi:Phi} {im:Imm} {env:Env} {t:Array Value} (e:ER G w phi im env t) (keep:List Nat):ER G w phi im (prune keep env) t:=by
 refine ⟨fun n=>?_,e.2⟩
 unfold Go.AM.prune
 split
 ·exact e.1 n
 ·exact .undef _
theorem region_sound (hcf:CallOK P G cf) (hm:CallMem cf pu) (hfol:P.follows .mixedOrders=true) {id:Nat} {ops:Array Oper} {draw:Bool} {L:List AOper} {n:Nat} {vals:List Nat} (hc:compOps P G vals ops ops.toList [] 0=some (L,n)) (hedge:draw=true→edgesBack ops=true)
  {keep:List Nat} {s s':St} (hr:aregion cf pu nt draw L keep n s=some s') {a:Act} {w:World} {phi:Phi} {im:Imm} (e:ER G w phi im s.env a.tmps) (ht:a.tmps.size=nt) (sr:SR w phi im s.heap) :
  (Code.region id ops draw).wp P (fun ee a' w'=>ee = .normal∧Next1 G w phi im nt a.defers s'.env s'.heap a' w') a w:=by
 unfold aregion at hr
 split at hr
 ·cases hr
 ·rename_i e1 h1 rs hs
  split at hr
  ·rename_i hd
   cases hr
   have fin:∀ a' w',Next1 G w phi im nt a.defers e1 h1 a' w'→Next1 G w phi im nt a.defers (prune keep e1) h1 a' w':=fun a' w' hn=>by
    obtain ⟨phi',im',x1,x2,x3,x4,x5⟩:=hn
    exact ⟨phi',im',x1.prune keep,x2,x3,x4,x5⟩
   cases draw with
   | false =>
    refine wp_region_list ?_
    exact asteps_sound hcf (compOps_rel hc) hs e ht (sr.extend n) fun a' w' hn=>⟨rfl,fin a' w' hn⟩
   | true =>
    refine wp_region_any hfol ?_
    have hd':drawOK 0 (L.zip rs)=true:=by simpa using hd
    have hdid:∀ j,j<ops.size→didOf (Array.replicate ops.size false) j=false:=fun j hj=>by simp [didOf,Array.getD_eq_getD_getElem?,hj]
    have hlen:=(compOps_rel hc).len
    have hfs:=FR.of_asteps 0 hs
    refine draw_sound hcf hm hc (hedge rfl) hs hd' (w0:=w) (phi0:=phi) (im0:=im) (ds:=a.defers) (fun a' w' hn=>⟨rfl,fin a' w' hn⟩) ops.size (Array.replicate ops.size false) (by simp) (by simp [List.countP_replicate]) (fun i o hi hl=>?_)
     (FR.none _ 0 s.env (s.heap ++ List.replicate n .free) fun j _ hj=>hdid j (by simp [hfs.1,hlen] at hj;exact hj)) ⟨fun k=>VR.heap (w:=w) (w':={ w with drawn:=w.drawn+1 }) rfl (e.1 k),GOK.mono (w:=w) (w':={ w with drawn:=w.drawn+1 }) (fun b o _=>rfl) (fun b s h=>h) (fun _ _ h=>h) e.2⟩ ht rfl (SR.heap (w:=w) (w':={ w with drawn:=w.drawn+1 }) rfl (sr.extend n)) (Post.drew w phi im _)
    have hlt:i<ops.size:=by
     rcases Nat.lt_or_ge i ops.size with q|q
     ·exact q
     ·rw [Array.getElem?_eq_none q] at hi;cases hi
    have:=hdid i hlt
    simp only [didOf] at this
    rw [this] at hl
    cases hl
  ·cases hr
theorem arun_sound (hcf:CallOK P G cf) (hm:CallMem cf pu) (hfol:P.follows .mixedOrders=true) {vals:List Nat} {keeps:List (Nat × List Nat)} {fuel:Nat}:∀ (c:Code) {s s':St} {ex:Ex},arun cf pu nt fuel (compC P G vals keeps c) s=some (ex,s') →
  ∀ {a:Act} {w:World} {phi:Phi} {im:Imm},ER G w phi im s.env a.tmps→a.tmps.size=nt→SR w phi im s.heap →
   c.wp P (fun ee a' w'=>ee=ex.toExit∧Next1 G w phi im nt a.defers s'.env s'.heap a' w') a w:=by
 intro c
 induction c with
 | skip =>
  intro s s' ex hr a w phi im e ht sr
  cases hr
  exact wp_skip ⟨rfl,.start e ht sr⟩
 | region id ops draw =>
  intro s s' ex hr a w phi im e ht sr
  simp only [compC] at hr
  split at hr
  ·rename_i l n hops
   split at hr
   ·rename_i hd
    simp only [arun,Option.map_eq_some_iff] at hr
    obtain ⟨s1,h1,hq⟩:=hr
    cases hq
    exact region_sound hcf hm hfol hops (fun hdr=>by simpa [hdr] using hd) h1 e ht sr
   ·cases hr
  ·cases hr
 | seq x y ihx ihy =>
  intro s s' ex hr a w phi im e ht sr
  simp only [compC,arun] at hr
  split at hr
  ·rename_i s1 h1
   refine wp_seq (wp_mono (ihx h1 e ht sr) ?_)
   rintro ee a1 w1 ⟨rfl,phi1,im1,x1,x2,x3,x4,x5⟩
   exact wp_mono (ihy hr x1 x2 x4) fun ee a2 w2 ⟨q1,q2⟩=>⟨q1,.trans x5 (by rw [← x3];exact q2)⟩
  ·rename_i r hne
   refine wp_seq (wp_mono (ihx hr e ht sr) ?_)
   rintro ee a1 w1 ⟨rfl,hn⟩
   cases ex with
   | normal=>exact absurd hr (hne s')
   | exit i=>exact ⟨rfl,hn⟩
   | ret=>exact ⟨rfl,hn⟩
 | cond o x y ihx ihy =>
  intro s s' ex hr a w phi im e ht sr
  simp only [compC] at hr
  split at hr
  ·rename_i ao ho
   have hv:=compO_ok e ho
   simp only [arun] at hr
   split at hr
   ·rename_i hq
    rw [hq] at hv
    exact wp_cond_true hv.bool_inv (ihx hr e ht sr)
   ·rename_i hq
    rw [hq] at hv
    exact wp_cond_false hv.bool_inv (ihy hr e ht sr)
   ·cases hr
  ·cases hr
 | block id b ih =>
  intro s s' ex hr a w phi im e ht sr
  simp only [compC,arun] at hr
  split at hr
  ·rename_i i s1 h1
   refine wp_block (wp_mono (ih h1 e ht sr) ?_)
   rintro ee a1 w1 ⟨rfl,hn⟩
   split at hr
   ·rename_i hi
    cases hr
    simp only [Ex.toExit,Exit.inBlock]
    rw [if_pos hi]
    exact ⟨trivial,hn⟩
   ·rename_i hi
    cases hr
    simp only [Ex.toExit,Exit.inBlock]
    rw [if_neg hi]
    exact ⟨trivial,hn⟩
  ·rename_i r hne
   refine wp_block (wp_mono (ih hr e ht sr) ?_)
   rintro ee a1 w1 ⟨rfl,hn⟩
   cases ex with
   | normal=>exact ⟨rfl,hn⟩
   | exit i=>exact absurd hr (hne i s')
   | ret=>exact ⟨rfl,hn⟩
 | loop b ih =>
  intro s s' ex hr a w phi im e ht sr
  simp only [compC,arun] at hr
  have key:∀ (n:Nat) {s:St} {a:Act} {w:World} {phi:Phi} {im:Imm},aloop (arun cf pu nt fuel (compC P G vals keeps b)) n s=some (ex,s')→ER G w phi im s.env a.tmps→a.tmps.size=nt→SR w phi im s.heap →
    Code.rounds P b (fun ee a' w'=>ee=ex.toExit∧Next1 G w phi im nt a.defers s'.env s'.heap a' w') n a w:=by
   intro n
   induction n with
   | zero=>intro s a w phi im hr;cases hr
   | succ n ihn =>
    intro s a w phi im hr e ht sr
    simp only [aloop] at hr
    rw [rounds_succ]
    split at hr
    ·rename_i s1 h1
     refine wp_mono (ih h1 e ht sr) ?_
     rintro ee a1 w1 ⟨rfl,phi1,im1,x1,x2,x3,x4,x5⟩
     have:=ihn hr x1 x2 x4
     have mono:∀ (n:Nat) (a:Act) (w:World) (Q Q':Exit→Act→World→Prop),(∀ e a w,Q e a w→Q' e a w)→Code.rounds P b Q n a w→Code.rounds P b Q' n a w:=by
      intro n
      induction n with
      | zero=>intro a w Q Q' _ h;exact h
      | succ n ihm =>
       intro a w Q Q' hq h
       rw [rounds_succ] at h ⊢
       refine wp_mono h fun ee a1 w1 hh=>?_
       cases ee with
       | normal=>exact ihm _ _ _ _ hq hh
       | _=>exact hq _ _ _ hh
     exact mono n a1 w1 _ _ (fun ee a2 w2 ⟨q1,q2⟩=>⟨q1,.trans x5 (by rw [← x3];exact q2)⟩) this
    ·rename_i r hne
     refine wp_mono (ih hr e ht sr) ?_
     rintro ee a1 w1 ⟨rfl,hn⟩
     cases ex with
     | normal=>exact absurd hr (hne s')
     | exit i=>exact ⟨rfl,hn⟩
     | ret=>exact ⟨rfl,hn⟩
  exact wp_loop_rounds fuel (key fuel hr e ht sr)
 | exit id =>
  intro s s' ex hr a w phi im e ht sr
  cases hr
  exact wp_exit ⟨rfl,.start e ht sr⟩
 | ret =>
  intro s s' ex hr a w phi im e ht sr
  cases hr
  exact wp_ret ⟨rfl,.start e ht sr⟩
 | rangeFunc=>intro s s' ex hr;cases hr
 | scope c ih =>
  intro s s' ex hr a w phi im e ht sr
  refine wp_scope_straight (wp_mono (ih hr e ht sr) ?_)
  rintro ee a1 w1 ⟨rfl,hn⟩
  cases ex with
  | normal=>exact ⟨rfl,hn⟩
  | exit i=>exact ⟨rfl,hn⟩
  | ret=>exact ⟨rfl,hn⟩
 | label =>
  intro s s' ex hr a w phi im e ht sr
  cases hr
  exact wp_label ⟨rfl,.start e ht sr⟩
 | goto=>intro s s' ex hr;cases hr
 | refuse=>intro s s' ex hr;cases hr
theorem addLog_mem:∀ {a l:List Nat} {x:Nat},x ∈ a∨x ∈ l→x ∈ addLog a l:=by
 intro a
 induction a with
 | nil=>intro l x h;simpa [addLog] using h
 | cons y r ih =>
  intro l x h
  simp only [addLog]
  apply ih
  rcases h with h|h
  ·rcases List.mem_cons.1 h with rfl|h
   ·right;split
    ·rename_i hc;simpa using hc
    ·exact List.mem_cons_self ..
   ·exact .inl h
  ·right;split
   ·exact h
   ·exact List.mem_cons_of_mem _ h
theorem logOf_mem:∀ {rs:List Rec} {l:List Nat} {x:Nat},(∃ r ∈ rs,x ∈ r.log)∨x ∈ l→x ∈ logOf rs l:=by
 intro rs
 induction rs with
 | nil=>intro l x h;rcases h with ⟨r,hr,_⟩|h;simp at hr;exact h
 | cons r t ih =>
  intro l x h
  simp only [logOf]
  apply ih
  rcases h with ⟨r',hr,hx⟩|h
  ·rcases List.mem_cons.1 hr with rfl|hr
   ·exact .inr (addLog_mem (.inl hx))
   ·exact .inl ⟨r',hr,hx⟩
  ·exact .inr (addLog_mem (.inr h))
theorem astep_frame (hm:CallMem cf pu) {base:Nat} {o:AOper} {e e':Env} {h h':Heap} {r:Rec} (hs:astep cf pu nt base o e h=some (e',h',r)):h.length≤h'.length∧∀ b,b<h.length→b ∉ r.log→h'[b]?=h[b]?:=by
 obtain ⟨v,hs,_⟩:=astep_iff.1 hs
 cases r with
 | no =>
  rcases hs with ⟨_,_,rfl,_⟩|⟨_,hrun⟩
  ·exact ⟨Nat.le_refl _,fun _ _ _=>rfl⟩
  ·exfalso
   unfold stepRun at hrun
   split at hrun
   ·split at hrun
    ·split at hrun
     ·simp only [Option.some.injEq,Prod.mk.injEq] at hrun
      obtain ⟨_,_,hq⟩:=hrun
      split at hq<;>cases hq
     ·cases hrun
    ·cases hrun
   ·split at hrun<;>cases hrun
 | hc rd wr =>
  obtain ⟨g1,_,_⟩:=hstep_local hm hs
  refine ⟨?_,fun b _ hb=>g1 b hb⟩
  rcases Nat.lt_or_ge h'.length h.length with q|q
  ·-- blocks never go
   exfalso
   rcases hs with ⟨_,_,_,hq⟩|⟨_,hrun⟩
   ·cases hq
   ·unfold stepRun at hrun
    split at hrun
    ·split at hrun
     ·split at hrun
      ·rename_i v0 h0 w0 hcf
       simp only [Option.some.injEq,Prod.mk.injEq] at hrun
       obtain ⟨_,rfl,_⟩:=hrun
       have:=(hm.frame _ _ _ _ _ _ hcf).1
       omega
      ·cases hrun
     ·cases hrun
    ·split at hrun
     ·rename_i v0 h0 hr0
      cases hrun
      have len:∀ (c:HC) (slot:Nat) (h:Heap) (v:AV) (h':Heap),c.run slot h=some (v,h')→h'.length=h.length:=by
       intro c slot
       induction c with
       | fail=>intro h v h' hr;cases hr
       | done u=>intro h v h' hr;cases run_done hr;rfl
       | rd id k ih=>intro h v h' hr;obtain ⟨b0,_,_,hk⟩:=run_rd hr;exact ih b0 h v h' hk
       | wr id b k ih=>intro h v h' hr;obtain ⟨b0,_,_,hk⟩:=run_wr hr;have:=ih _ v h' hk;simpa using this
       | new b k ih=>intro h v h' hr;obtain ⟨b0,_,_,hk⟩:=run_new hr;have:=ih _ v h' hk;simpa using this
      have:=len _ _ _ _ _ hr0
      omega
     ·cases hrun
  ·exact q
 | kc n wr =>
  obtain ⟨_,g1,g2⟩:=hstep_kc hm hs
  exact ⟨g1,g2⟩
theorem asteps_frame (hm:CallMem cf pu) {base:Nat}:∀ {L:List AOper} {e e':Env} {h h':Heap} {rs:List Rec},asteps cf pu nt base L e h=some (e',h',rs)→h.length≤h'.length∧∀ b,b<h.length→(∀ r ∈ rs,b ∉ r.log)→h'[b]?=h[b]?:=by
 intro L
 induction L with
 | nil=>intro e e' h h' rs hs;cases hs;exact ⟨Nat.le_refl _,fun _ _ _=>rfl⟩
 | cons o t ih =>
  intro e e' h h' rs hs
  simp only [asteps] at hs
  split at hs
  ·cases hs
  ·rename_i e1 h1 r1 h0
   simp only [Option.map_eq_some_iff] at hs
   obtain ⟨⟨e3,h3,rs'⟩,h4,hq⟩:=hs
   cases hq
   obtain ⟨a1,a2⟩:=astep_frame hm h0
   obtain ⟨b1,b2⟩:=ih h4
   exact ⟨Nat.le_trans a1 b1,fun b hb hr=>by rw [b2 b (by omega) fun r hr'=>hr r (List.mem_cons_of_mem _ hr'),a2 b hb (hr r1 (List.mem_cons_self ..))]⟩
def StLe (s s':St):Prop:=s.heap.length≤s'.heap.length∧(∀ x ∈ s.log,x ∈ s'.log)∧∀ b,b<s.heap.length→b ∉ s'.log→s'.heap[b]?=s.heap[b]?
theorem StLe.refl (s:St):StLe s s:=⟨Nat.le_refl _,fun _ h=>h,fun _ _ _=>rfl⟩
theorem StLe.trans {a b c:St} (h:StLe a b) (k:StLe b c):StLe a c :=
 ⟨Nat.le_trans h.1 k.1,fun x hx=>k.2.1 x (h.2.1 x hx),fun x hx hn=>by rw [k.2.2 x (Nat.lt_of_lt_of_le hx h.1) hn,h.2.2 x hx fun q=>hn (k.2.1 x q)]⟩
theorem arun_frame (hm:CallMem cf pu) {fuel:Nat}:∀ (ac:ACode) {s s':St} {ex:Ex},arun cf pu nt fuel ac s=some (ex,s')→StLe s s':=by
 intro ac
 induction ac with
 | skip=>intro s s' ex h;cases h;exact .refl _
 | region d ops keep slots =>
  intro s s' ex h
  simp only [arun,Option.map_eq_some_iff] at h
  obtain ⟨s1,h1,hq⟩:=h
  cases hq
  unfold aregion at h1
  split at h1
  ·cases h1
  ·rename_i e1 hh rs hs
   split at h1
   ·cases h1
    obtain ⟨a1,a2⟩:=asteps_frame hm hs
    refine ⟨by (show s.heap.length≤hh.length;simp at a1;omega),fun x hx=>logOf_mem (.inr hx),fun b hb hn=>?_⟩
    have:=a2 b (by simp;omega) fun r hr q=>hn (logOf_mem (.inl ⟨r,hr,q⟩))
    rw [this,List.getElem?_append_left hb]
   ·cases h1
 | seq x y ihx ihy =>
  intro s s' ex h
  simp only [arun] at h
  split at h
  ·rename_i s1 h1;exact (ihx h1).trans (ihy h)
  ·exact ihx h
 | cond c x y ihx ihy =>
  intro s s' ex h
  simp only [arun] at h
  split at h
  ·exact ihx h
  ·exact ihy h
  ·cases h
 | block id b ih =>
  intro s s' ex h
  simp only [arun] at h
  split at h
  ·rename_i i s1 h1
   split at h<;>cases h<;>exact ih h1
  ·exact ih h
 | loop b ih =>
  intro s s' ex h
  simp only [arun] at h
  have key:∀ (n:Nat) {s:St},aloop (arun cf pu nt fuel b) n s=some (ex,s')→StLe s s':=by
   intro n
   induction n with
   | zero=>intro s h;cases h
   | succ n ihn =>
    intro s h
    simp only [aloop] at h
    split at h
    ·rename_i s1 h1;exact (ih h1).trans (ihn h)
    ·exact ih h
  exact key fuel h
 | exit id=>intro s s' ex h;cases h;exact .refl _
 | ret=>intro s s' ex h;cases h;exact .refl _
 | stuck=>intro s s' ex h;cases h
theorem acall_mem (A:Tab):∀ k,CallMem (acall A k) (isPure A):=by
 intro k
 induction k with
 | zero=>exact ⟨fun g args h v h' wr _ hc=>(by cases hc),fun g args h v h' wr hc=>(by cases hc),acall_grow A 0⟩
 | succ k ih =>
  refine ⟨?_,?_,acall_grow A (k+1)⟩
  ·intro g args h v h' wr hp hc
   simp only [acall] at hc ⊢
   unfold isPure at hp
   cases hf:A g with
   | none=>rw [hf] at hc;cases hc
   | some f =>
    simp only [hf] at hp hc ⊢
    by_cases hl:args.length≠f.np
    ·rw [if_pos hl] at hc;cases hc
    ·rw [if_neg hl] at hc
     rw [if_pos hp] at hc
     simp only [Option.map_eq_some_iff] at hc
     obtain ⟨v',hv',hq⟩:=hc
     cases hq
     refine ⟨rfl,fun h2=>?_⟩
     rw [if_neg hl,if_pos hp,hv']
     rfl
  ·intro g args h v h' wr hc
   simp only [acall] at hc
   split at hc
   ·cases hc
   ·rename_i f hf
    split at hc
    ·cases hc
    ·split at hc
     ·simp only [Option.map_eq_some_iff] at hc
      obtain ⟨v',hv',hq⟩:=hc
      cases hq
      exact ⟨Nat.le_refl _,fun _ _ _=>rfl⟩
     ·split at hc
      ·cases hc
      split at hc
      ·rename_i v0 h0 w0 hb
       cases hc
       unfold abody at hb
       split at hb
       ·cases hb
       ·rename_i ex s hne hrun
        simp only [Option.map_eq_some_iff] at hb
        obtain ⟨v',hv',hq⟩:=hb
        cases hq
        obtain ⟨a1,a2,a3⟩:=arun_frame ih _ hrun
        exact ⟨a1,fun id hid hn=>a3 id hid fun q=>hn (List.mem_filter.2 ⟨q,by simpa using hid⟩)⟩
       ·cases hb
      ·cases hc
theorem mapM_len {α β:Type} {f:α→Option β}:∀ {l:List α} {m:List β},l.mapM f=some m→m.length=l.length∧∀ (i:Nat) y,m[i]?=some y→∃ x,l[i]?=some x∧f x=some y:=by
 intro l
 induction l with
 | nil=>intro m h;simp at h;subst h;exact ⟨rfl,fun i y hy=>by simp at hy⟩
 | cons x r ih =>
  intro m h
  rw [List.mapM_cons] at h
  simp only [Option.bind_eq_bind,Option.bind_eq_some_iff,Option.pure_def,Option.some.injEq] at h
  obtain ⟨y,hy,ys,hys,rfl⟩:=h
  obtain ⟨h1,h2⟩:=ih hys
  refine ⟨by simp [h1],fun i z hz=>?_⟩
  cases i with
  | zero=>simp at hz;subst hz;exact ⟨x,rfl,hy⟩
  | succ i=>simp at hz;obtain ⟨x',q1,q2⟩:=h2 i z hz;exact ⟨x',by simpa using q1,q2⟩
def imAll (im:Imm) (phi:Phi):Imm:=fun b o=>im b o∨img phi b
theorem reify_sound {w:World} {phi:Phi} {im:Imm} {h:Heap} (s:SR w phi im h):∀ (n:Nat) (x y:AV) (v:Value),reify h n x=some y→VR w phi im x v→IR w (imAll im phi) y v:=by
 intro n
 induction n with
 | zero=>intro x y v h;cases h
 | succ n ih =>
  intro x y v hr hv
  have lift:∀ {z:AV} {u:Value},IR w im z u→IR w (imAll im phi) z u:=fun hz=>hz.mono (fun _ _ _=>rfl) fun _ _ hb => .inl hb
  have cellsL:∀ {cs l:List AV} {vs:Array Value},cs.mapM (reify h n)=some l→vs.size=cs.length→(∀ (i:Nat) x,cs[i]?=some x→VR w phi im x (vs.getD i Go.undef))→vs.size=l.length∧∀ (i:Nat) x,l[i]?=some x→IR w (imAll im phi) x (vs.getD i Go.undef):=fun {cs l vs} hm hn hrel=>by
   obtain ⟨h1,h2⟩:=mapM_len hm
   refine ⟨by omega,fun i z hz=>?_⟩
   obtain ⟨x0,q1,q2⟩:=h2 i z hz
   exact ih x0 z _ q2 (hrel i x0 q1)
  cases x with
  | ms id off len sz cap ex =>
   simp only [reify] at hr
   split at hr
   ·rename_i cs hb
    split at hr
    ·rename_i hle
     simp only [Option.map_eq_some_iff] at hr
     obtain ⟨l,hl,rfl⟩:=hr
     obtain ⟨b,sh,ob,rcap,el,nn,rfl,hp,hoff,hsh,hnn,hcap,hx,hlc⟩:=hv.ms_inv
     obtain ⟨m1,m2⟩:=mapM_len hl
     have hll:l.length=len*sz:=by rw [m1];simp;omega
     have hcl:=(chunk_get sz len l hll).1
     have hrows:RowsAt w (imAll im phi) (chunk sz len l) b ob sz:=RowsAt.chunk hll fun j x hj=>by
      have hlt:=set_lt hj
      obtain ⟨x0,q1,q2⟩:=m2 j x hj
      have ho':ob=sh+off:=hoff (by
       rcases Nat.eq_zero_or_pos len with g|g
       ·rw [hll,g] at hlt;simp at hlt
       ·omega)
      subst ho'
      rw [List.getElem?_take_of_lt (by omega),List.getElem?_drop] at q1
      obtain ⟨u,hu,hrel⟩:=s.cell hb hp _ x0 q1
      exact ⟨.inr ⟨id,_,hp,rfl⟩,u,by rw [Nat.add_assoc];exact hu,ih x0 x u q2 hrel⟩
     have:=VR.rows (w:=w) (phi:=fun _=>none) (im:=imAll im phi) (cap:= .no) (base:=some ⟨b,ob,none⟩) (rcap:=rcap) (fun _=>rfl) (by omega) hrows trivial
     rw [hcl] at this
     exact this.is_no
    ·cases hr
   ·cases hr
  | mp id off =>
   simp only [reify] at hr
   split at hr
   ·rename_i cs hb
    split at hr
    ·rename_i hle
     simp only [Option.map_eq_some_iff] at hr
     obtain ⟨l,hl,rfl⟩:=hr
     obtain ⟨b,sh,hp,rfl⟩:=hv.mp_inv
     obtain ⟨m1,m2⟩:=mapM_len hl
     let vs:Nat→Value:=fun j=>(w.cell? ⟨b,sh+j,none⟩).getD Go.undef
     have key:∀ (j:Nat) x,l[j]?=some x→∃ u,w.cell? ⟨b,sh+j,none⟩=some u∧IR w (imAll im phi) x u:=by
      intro j x hj
      obtain ⟨x0,q1,q2⟩:=m2 j x hj
      obtain ⟨u,hu,hrel⟩:=s.cell hb hp j x0 q1
      exact ⟨u,hu,ih x0 x u q2 hrel⟩
     exact .ip l off b (sh+off) vs (by omega) (fun j x hj => .inr ⟨id,_,hp,rfl⟩) (fun j x hj=>by
      obtain ⟨u,hu,_⟩:=key j x hj
      rw [show sh+off - off+j=sh+j by omega]
      simp [vs,hu]) (fun j x hj=>by
      obtain ⟨u,hu,hrel⟩:=key j x hj
      have:vs j=u:=by simp [vs,hu]
      rw [this];exact hrel)
    ·cases hr
   ·cases hr
  | mm id=>cases hr
  | fn f first caps =>
   simp only [reify] at hr
   split at hr
   ·rename_i l m hl hm
    cases hr
    obtain ⟨us,vs,rfl,h1,h2,h3,h4⟩:=hv.fn_inv
    obtain ⟨g1,g2⟩:=cellsL hl h1 h2
    obtain ⟨g3,g4⟩:=cellsL hm h3 h4
    exact .fn f l m us vs g1 g2 g3 g4
   ·cases hr
  | agg cs =>
   simp only [reify,Option.map_eq_some_iff] at hr
   obtain ⟨l,hl,rfl⟩:=hr
   obtain ⟨vs,rfl,h1,h2⟩:=hv.agg_inv
   obtain ⟨g1,g2⟩:=cellsL hl h1 h2
   exact .agg l vs g1 g2
  | tup cs =>
   simp only [reify,Option.map_eq_some_iff] at hr
   obtain ⟨l,hl,rfl⟩:=hr
   obtain ⟨vs,rfl,h1,h2⟩:=hv.tup_inv
   obtain ⟨g1,g2⟩:=cellsL hl h1 h2
   exact .tup l vs g1 g2
  | ifc t z =>
   simp only [reify,Option.map_eq_some_iff] at hr
   obtain ⟨l,hl,rfl⟩:=hr
   obtain ⟨u,rfl,hi⟩:=hv.ifc_inv
   exact .ifc t l u (ih z l u hl hi)
  | undef=>cases hr;exact .undef _
  | int k m=>cases hr;cases hv with|imm hi=>exact lift hi
  | bool b=>cases hr;cases hv with|imm hi=>exact lift hi
  | str st=>cases hr;cases hv with|imm hi=>exact lift hi
  | nilp=>cases hr;cases hv with|imm hi=>exact lift hi
  | ip row off=>cases hr;exact lift hv.ip_inv
  | is rows cap=>cases hr;exact lift hv.is_no
  | nilf=>cases hr;cases hv with|imm hi=>exact lift hi
  | nilm=>cases hr;cases hv with|imm hi=>exact lift hi
  | nili=>cases hr;cases hv with|imm hi=>exact lift hi
def res1 (t:Array Value):ResultVar→Sem Value
 | .tmp n=>pure (t.getD n Go.undef)
 | .cell a ty=>do loadVar ty (← asAddr (t.getD a Go.undef))
theorem ares_ok {w:World} {phi:Phi} {im:Imm} {h:Heap} (s:SR w phi im h) {env:Env} {t:Array Value} (e:ER G w phi im env t):∀ {l:List ResultVar} {m:List ARes} {vs:List AV},compR P l=some m→m.mapM (ares env h)=some vs →
  ∃ us:List Value,(l.mapM (res1 t)).run P w = .ok us w∧us.length=vs.length∧∀ (i:Nat) x,vs[i]?=some x→VR w phi im x (us.getD i Go.undef):=by
 intro l
 induction l with
 | nil =>
  intro m vs hc hm
  cases hc
  simp at hm
  subst hm
  exact ⟨[],by simp,rfl,fun i x hx=>by simp at hx⟩
 | cons r l ih =>
  intro m vs hc hm
  cases r with
  | tmp n =>
   simp only [compR,Option.map_eq_some_iff] at hc
   obtain ⟨m',hm',rfl⟩:=hc
   rw [List.mapM_cons] at hm
   simp only [Option.bind_eq_bind,Option.bind_eq_some_iff,Option.pure_def,Option.some.injEq,ares] at hm
   obtain ⟨v0,rfl,vs',hvs',rfl⟩:=hm
   obtain ⟨us,g1,g2,g3⟩:=ih hm' hvs'
   refine ⟨t.getD n Go.undef :: us,by simp only [List.mapM_cons,res1,Sem.run_bind,Sem.run_pure,Result.andThen_ok,g1],by simp [g2],fun i x hx=>?_⟩
   cases i with
   | zero=>simp at hx;subst hx;simpa using e.1 n
   | succ i=>simpa using g3 i x (by simpa using hx)
  | cell a ty =>
   simp only [compR] at hc
   split at hc
   ·rename_i g sz m' hg hs hm'
    cases hc
    rw [List.mapM_cons] at hm
    simp only [Option.bind_eq_bind,Option.bind_eq_some_iff,Option.pure_def,Option.some.injEq] at hm
    obtain ⟨v0,hv0,vs',hvs',rfl⟩:=hm
    obtain ⟨us,g1,g2,g3⟩:=ih hm' hvs'
    have hva:=e.1 a
    have:∃ u,(do loadVar ty (← asAddr (t.getD a Go.undef)):Sem Value).run P w = .ok u w∧VR w phi im v0 u:=by
     simp only [ares] at hv0
     split at hv0
     ·rename_i id off hq
      rw [hq] at hva
      obtain ⟨b,sh,hp,hav⟩:=hva.mp_inv
      split at hv0
      ·rename_i cs hb
       obtain ⟨rv,r1,r2⟩:=cget_ok hg hs (fun j x hj=>s.cell hb hp j x hj) hv0
       exact ⟨rv,by simp only [hav,asAddr,Sem.run_bind,Sem.run_pure,Result.andThen_ok,r1],r2⟩
      ·cases hv0
     ·rename_i row off hq
      rw [hq] at hva
      have hi:=hva.ip_inv
      generalize hav:t.getD a Go.undef=av at hi
      cases hi with
      | ip _ _ b ob vs hle hbi hcell hrel =>
       obtain ⟨rv,r1,r2⟩:=cget_ok (w:=w) (phi:=phi) (im:=im) hg hs (b:=b) (o:=ob - off) (fun j x hj=>⟨vs j,hcell j x hj,.imm (hrel j x hj)⟩) hv0
       rw [show ob - off+off=ob by omega] at r1
       exact ⟨rv,by simp only [asAddr,Sem.run_bind,Sem.run_pure,Result.andThen_ok,r1],r2⟩
     ·cases hv0
    obtain ⟨u,u1,u2⟩:=this
    refine ⟨u :: us,?_,by simp [g2],fun i x hx=>?_⟩
    ·simp only [List.mapM_cons,res1,Sem.run_bind,Sem.run_pure] at u1 g1 ⊢
     rw [u1]
     simp only [Result.andThen_ok,g1]
    ·cases i with
     | zero=>simp at hx;subst hx;simpa using u2
     | succ i=>simpa using g3 i x (by simpa using hx)
   ·cases hc
theorem results_eq (fn:Func) (t:Array Value):results fn t=(do
  let a ← fn.results.mapM (res1 t)
  pure (if h:a.size=1 then a[0] else Value.tuple a)):=by
 unfold results
 have:(fun x:ResultVar=>(match x with
  | .tmp n=>pure (t.getD n Go.undef)
  | .cell a ty=>do loadVar ty (← asAddr (t.getD a Go.undef)):Sem Value))=res1 t:=by
  funext x
  cases x<;>rfl
 rw [← this]
 rfl
theorem results_ok {w:World} {phi:Phi} {im:Imm} {h:Heap} (s:SR w phi im h) {env:Env} {t:Array Value} (e:ER G w phi im env t) {fn:Func} {m:List ARes} (hc:compR P fn.results.toList=some m) {v:AV} (hr:aresults env h m=some v) :
  ∃ rv,(results fn t).run P w = .ok rv w∧VR w phi im v rv:=by
 unfold aresults at hr
 split at hr
 ·cases hr
 ·rename_i x hx
  cases hr
  obtain ⟨us,g1,g2,g3⟩:=ares_ok s e hc hx
  match us,g2 with
  | [u],_ =>
   refine ⟨u,?_,by simpa using g3 0 v rfl⟩
   rw [results_eq,Array.mapM_eq_mapM_toList,Sem.run_bind,Sem.run_map,g1]
   simp
 ·rename_i vs hne hx
  cases hr
  obtain ⟨us,g1,g2,g3⟩:=ares_ok s e hc hx
  refine ⟨.tuple us.toArray,?_,.tup vs us.toArray (by simpa using g2) fun i x hx=>by have:=g3 i x hx;simpa [Array.getD_eq_getD_getElem?] using this⟩
  rw [results_eq,Array.mapM_eq_mapM_toList,Sem.run_bind,Sem.run_map,g1]
  have hl:us.length≠1:=by
   intro q
   rw [g2] at q
   match vs,q with
   | [x],_=>exact hne x rfl
  simp [hl]
end
end Go.AM
