/- Layout: the plain law; members; a type is looked at; sizes. -/
import Derived.Test.YtfhijkapcdmdnaaGreatDoorZc
import Derived.Test.YtfhijkapcdmdnaaGreatDoorAmW
namespace Go.Proofs.YtfhijkapcdmdnaaGreatDoor
open Go.AM
set_option maxRecDepth 20000
set_option maxHeartbeats 4000000
set_option linter.unusedSimpArgs false
set_option linter.unusedVariables false
set_option maxHeartbeats 4000000
structure PlT where
 mem:Int
 ty:Int
 off:Int
 bit:Int
 bits:Int
structure LayT where
 size:Int
 align:Int
 pl:List PlT
def upS (n m:Int):Int:=(n+m - 1) / m*m
structure AtT where
 pos:Int
 al:Int
 pl:List PlT
def moveS (s u b:Int):Int:=if s / u=(s+b - 1) / u then s else upS s u
def stepS (E:Int→LayT) (s:AtT) (i:Nat) (m:Mem):AtT :=
 if m.2.2<0 then ⟨upS s.pos (8*(E m.2.1).align)+8*(E m.2.1).size,max s.al (E m.2.1).align,s.pl ++ [⟨i,m.2.1,upS s.pos (8*(E m.2.1).align) / 8,0,0⟩]⟩
 else if m.2.2=0 then ⟨upS s.pos (8*(E m.2.1).size),s.al,s.pl⟩
 else ⟨moveS s.pos (8*(E m.2.1).size) m.2.2+m.2.2,if m.1≠[] then max s.al (E m.2.1).size else s.al,
  s.pl ++ [⟨i,m.2.1,(E m.2.1).size*(moveS s.pos (8*(E m.2.1).size) m.2.2 / (8*(E m.2.1).size)),moveS s.pos (8*(E m.2.1).size) m.2.2 % (8*(E m.2.1).size),m.2.2⟩]⟩
def foldS (E:Int→LayT):Nat→List Mem→AtT→AtT
 | _,[],s=>s
 | i,m :: r,s=>foldS E (i+1) r (stepS E s i m)
def structL (E:Int→LayT) (l:List Mem):LayT:=⟨upS (max 1 (upS (foldS E 0 l ⟨0,1,[]⟩).pos 8 / 8)) (foldS E 0 l ⟨0,1,[]⟩).al,(foldS E 0 l ⟨0,1,[]⟩).al,(foldS E 0 l ⟨0,1,[]⟩).pl⟩
def stepU (E:Int→LayT) (s:LayT) (i:Nat) (m:Mem):LayT :=
 if m.2.2<0 then ⟨max s.size (E m.2.1).size,max s.align (E m.2.1).align,s.pl ++ [⟨i,m.2.1,0,0,0⟩]⟩
 else if m.2.2=0 then s
 else ⟨max s.size (upS m.2.2 8 / 8),if m.1≠[] then max s.align (E m.2.1).size else s.align,s.pl ++ [⟨i,m.2.1,0,0,m.2.2⟩]⟩
def foldU (E:Int→LayT):Nat→List Mem→LayT→LayT
 | _,[],s=>s
 | i,m :: r,s=>foldU E (i+1) r (stepU E s i m)
def unionL (E:Int→LayT) (l:List Mem):LayT:={ foldU E 0 l ⟨1,1,[]⟩ with size:=upS (foldU E 0 l ⟨1,1,[]⟩).size (foldU E 0 l ⟨1,1,[]⟩).align }
def rawL (E:Int→LayT) (r:TR):LayT :=
 if r.kind=14 then ⟨r.len*(E r.elem).size,(E r.elem).align,[]⟩
 else if r.kind=15 then structL E r.mem else if r.kind=16 then unionL E r.mem
 else ⟨widthS r.kind,widthS r.kind,[]⟩
def capL (l:LayT):LayT:=if 16384<l.size then { l with size:=16385 } else l
def layF (rows:List TR):Nat→Int→LayT
 | 0,_=>⟨0,0,[]⟩
 | f+1,id=>match getT rows id with
  | none=>⟨0,0,[]⟩
  | some r=>capL (rawL (layF rows f) r)
def bigF (rows:List TR):Nat→Int→Bool
 | 0,_=>false
 | f+1,id=>match getT rows id with
  | none=>false
  | some r=>decide (16384<(rawL (layF rows f) r).size) || (deps r).any (bigF rows f)
theorem upS_div (n m:Int):upS n m=(n+m - 1) - (n+m - 1) % m:=by
 unfold upS;have:=Int.emod_add_mul_ediv (n+m - 1) m;rw [Int.mul_comm] at this;omega
theorem upS_mod (n m:Int):upS n m % m=0:=by unfold upS;exact Int.mul_emod_left ..
theorem upS_ge {n m:Int} (h:0<m):n≤upS n m∧upS n m<n+m:=by
 rw [upS_div];have h1:=Int.emod_nonneg (n+m - 1) (by omega:m≠0);have h2:=Int.emod_lt_of_pos (n+m - 1) h;omega
structure FineE (e:LayT):Prop where
 al:e.align=1∨e.align=2∨e.align=4
 lo:1≤e.size
 hi:e.size≤16385
structure MemFit (E:Int→LayT) (m:Mem):Prop where
 fine:FineE (E m.2.1)
 word:0≤m.2.2→(E m.2.1).size=(E m.2.1).align∧m.2.2≤8*(E m.2.1).size
 nm:m.2.2<0→m.2.2 = -1∧m.1≠[]
theorem moveS_ok {s u b:Int} (hs:0≤s) (hu:u=8∨u=16∨u=32) (h0:0<b) (hb:b≤u):s≤moveS s u b∧moveS s u b<s+u∧moveS s u b % u+b≤u:=by
 have h:=upS_ge (n:=s) (m:=u) (by omega)
 have h2:=upS_mod s u
 unfold moveS
 rcases hu with rfl|rfl|rfl
 ·split<;>omega
 ·split<;>omega
 ·split<;>omega
def loP (p:PlT):Int:=8*p.off+p.bit
def hiP (E:Int→LayT) (p:PlT):Int:=if 0<p.bits then loP p+p.bits else 8*p.off+8*(E p.ty).size
structure PlOK (E:Int→LayT) (l:List Mem) (pos al:Int) (p:PlT):Prop where
 lo:0≤loP p
 off:0≤p.off
 hi:hiP E p≤pos
 md:p.off % (E p.ty).align=0
 mem:∃ (k:Nat) (m:Mem),p.mem=k∧l[k]?=some m∧m.2.1=p.ty∧max 0 m.2.2=p.bits∧(m.1≠[]→(E p.ty).align≤al)
 unit:0<p.bits→p.bit+p.bits≤8*(E p.ty).size
 bit:(p.bits=0→p.bit=0)∧0≤p.bit
 fine:FineE (E p.ty)
theorem PlOK.mono {E:Int→LayT} {l:List Mem} {pos al pos' al':Int} {p:PlT} (h:PlOK E l pos al p) (h1:pos≤pos') (h2:al≤al'):PlOK E l pos' al' p:=by
 obtain ⟨k,m,q1,q2,q3,q4,q5⟩:=h.mem
 exact ⟨h.lo,h.off,Int.le_trans h.hi h1,h.md,⟨k,m,q1,q2,q3,q4,fun q=>Int.le_trans (q5 q) h2⟩,h.unit,h.bit,h.fine⟩
structure AtOK (E:Int→LayT) (l:List Mem) (s:AtT):Prop where
 pos:0≤s.pos
 al:s.al=1∨s.al=2∨s.al=4
 pl:∀ p ∈ s.pl,PlOK E l s.pos s.al p
 ap:s.pl.Pairwise fun a b=>hiP E a≤loP b
theorem max124 {a b:Int} (ha:a=1∨a=2∨a=4) (hb:b=1∨b=2∨b=4):max a b=1∨max a b=2∨max a b=4:=by omega
theorem step_put {E:Int→LayT} {l:List Mem} {s:AtT} (h:AtOK E l s) {pos al:Int} {p:PlT} (h1:s.pos≤loP p) (hp:PlOK E l pos al p) (h2:s.pos≤pos) (h3:s.al≤al) (h4:al=1∨al=2∨al=4) (h0:0≤pos):AtOK E l ⟨pos,al,s.pl ++ [p]⟩:=by
 refine ⟨h0,h4,fun q hq=>?_,?_⟩
 ·rcases List.mem_append.1 hq with hq|hq
  ·exact (h.pl q hq).mono h2 h3
  ·rw [List.mem_singleton.1 hq];exact hp
 ·refine List.pairwise_append.2 ⟨h.ap,List.pairwise_singleton ..,fun a ha b hb=>?_⟩
  rw [List.mem_singleton.1 hb]
  exact Int.le_trans (h.pl a ha).hi h1
theorem step_ok {E:Int→LayT} {l:List Mem} {s:AtT} (h:AtOK E l s) {i:Nat} {m:Mem} (hi:l[i]?=some m) (hm:MemFit E m):AtOK E l (stepS E s i m)∧(stepS E s i m).pos≤s.pos+131200:=by
 have hf:=hm.fine
 have hpos:=h.pos
 have hal:=h.al
 unfold stepS
 by_cases hb:m.2.2<0
 ·rw [if_pos hb]
  obtain ⟨hb1,hn⟩:=hm.nm hb
  have hg:=upS_ge (n:=s.pos) (m:=8*(E m.2.1).align) (by have:=hf.al;omega)
  have hmd:=upS_mod s.pos (8*(E m.2.1).align)
  have h1:=hf.al
  have h2:=hf.lo
  have h3:=hf.hi
  have e8:8*(upS s.pos (8*(E m.2.1).align) / 8)=upS s.pos (8*(E m.2.1).align):=by
   rcases h1 with q|q|q<;>rw [q] at hmd ⊢<;>omega
  have emd:upS s.pos (8*(E m.2.1).align) / 8 % (E m.2.1).align=0:=by
   rcases h1 with q|q|q<;>rw [q] at hmd ⊢<;>omega
  refine ⟨step_put h (p:=⟨i,m.2.1,upS s.pos (8*(E m.2.1).align) / 8,0,0⟩) ?_ ⟨?_,?_,?_,emd,⟨i,m,rfl,hi,rfl,?_,fun _=>?_⟩,?_,?_,hf⟩ ?_ ?_ (max124 hal h1) ?_,?_⟩
  ·simp only [loP];omega
  ·simp only [loP];omega
  ·simp only;omega
  ·simp only [hiP];rw [if_neg (by omega)];omega
  ·simp only;omega
  ·simp only;omega
  ·intro q;simp only at q;omega
  ·exact ⟨fun _=>rfl,Int.le_refl _⟩
  ·omega
  ·omega
  ·omega
  ·simp only;omega
 ·rw [if_neg hb]
  obtain ⟨hw,hw2⟩:=hm.word (by omega)
  have h1:=hf.al
  rw [← hw] at h1
  by_cases h0:m.2.2=0
  ·rw [if_pos h0]
   have hg:=upS_ge (n:=s.pos) (m:=8*(E m.2.1).size) (by omega)
   refine ⟨⟨by simp only;omega,hal,fun p hp=>(h.pl p hp).mono (by simp only;omega) (Int.le_refl _),h.ap⟩,?_⟩
   simp only;omega
  ·rw [if_neg h0]
   obtain ⟨g1,g2,g3⟩:=moveS_ok (s:=s.pos) (u:=8*(E m.2.1).size) (b:=m.2.2) hpos (by omega) (by omega) hw2
   generalize moveS s.pos (8*(E m.2.1).size) m.2.2=a at *
   have eA:8*((E m.2.1).size*(a / (8*(E m.2.1).size)))+a % (8*(E m.2.1).size)=a:=by
    have:=Int.emod_add_mul_ediv a (8*(E m.2.1).size)
    rw [Int.mul_assoc] at this;omega
   have eB:0≤(E m.2.1).size*(a / (8*(E m.2.1).size)):=Int.mul_nonneg (by omega) (Int.ediv_nonneg (by omega) (by omega))
   have eC:(E m.2.1).size*(a / (8*(E m.2.1).size)) % (E m.2.1).align=0:=by rw [← hw];exact Int.mul_emod_right ..
   have eD:0≤a % (8*(E m.2.1).size):=Int.emod_nonneg _ (by omega)
   generalize (E m.2.1).size*(a / (8*(E m.2.1).size))=o at *
   generalize a % (8*(E m.2.1).size)=t at *
   refine ⟨step_put h (p:=⟨i,m.2.1,o,t,m.2.2⟩) ?_ ⟨?_,eB,?_,eC,⟨i,m,rfl,hi,rfl,?_,fun q=>?_⟩,fun _=>g3,?_,hf⟩ ?_ ?_ ?_ ?_,?_⟩
   ·simp only [loP];omega
   ·simp only [loP];omega
   ·simp only [hiP,loP];rw [if_pos (by omega)];omega
   ·simp only;omega
   ·simp only;rw [if_pos q];omega
   ·exact ⟨fun q=>by simp only at q;omega,eD⟩
   ·omega
   ·split<;>omega
   ·split
    ·exact max124 hal h1
    ·exact hal
   ·omega
   ·simp only;omega
theorem fold_ok {E:Int→LayT} {l:List Mem} (hm:∀ m ∈ l,MemFit E m):∀ (r:List Mem) (i:Nat) (s:AtT),l.drop i=r→AtOK E l s→AtOK E l (foldS E i r s):=by
 intro r
 induction r with
 | nil=>intro i s _ h;exact h
 | cons m r ih =>
  intro i s hr h
  have hg:l[i]?=some m:=by
   have:=congrArg (·[0]?) hr
   simpa using this
  have htl:l.drop (i+1)=r:=by
   have:=congrArg List.tail hr
   simpa using this
  exact ih (i+1) _ htl (step_ok h hg (hm m (List.mem_of_getElem? hg))).1
theorem at0 (E:Int→LayT) (l:List Mem):AtOK E l ⟨0,1,[]⟩:=⟨Int.le_refl _,.inl rfl,fun p hp=>(by cases hp),List.Pairwise.nil⟩
theorem struct_ok {E:Int→LayT} {l:List Mem} (hm:∀ m ∈ l,MemFit E m):((structL E l).align=1∨(structL E l).align=2∨(structL E l).align=4)∧1≤(structL E l).size∧(structL E l).size % (structL E l).align=0 ∧
  (∀ p ∈ (structL E l).pl,PlOK E l (8*(structL E l).size) (structL E l).align p)∧(structL E l).pl.Pairwise fun a b=>hiP E a≤loP b:=by
 have h:=fold_ok hm l 0 _ rfl (at0 E l)
 unfold structL
 generalize foldS E 0 l ⟨0,1,[]⟩=s at *
 have h1:=h.al
 have h2:=h.pos
 have g1:=upS_ge (n:=s.pos) (m:=8) (by omega)
 have g2:=upS_mod s.pos 8
 have g3:=upS_ge (n:=max 1 (upS s.pos 8 / 8)) (m:=s.al) (by omega)
 dsimp only
 refine ⟨h1,by omega,upS_mod ..,fun p hp=>(h.pl p hp).mono ?_ (Int.le_refl _),h.ap⟩
 omega
structure UnOK (E:Int→LayT) (l:List Mem) (s:LayT):Prop where
 sz:1≤s.size
 al:s.align=1∨s.align=2∨s.align=4
 pl:∀ p ∈ s.pl,PlOK E l (8*s.size) s.align p∧p.off=0∧p.bit=0
theorem ustep_ok {E:Int→LayT} {l:List Mem} {s:LayT} (h:UnOK E l s) {i:Nat} {m:Mem} (hi:l[i]?=some m) (hm:MemFit E m):UnOK E l (stepU E s i m)∧(stepU E s i m).size≤max s.size 16385:=by
 have hf:=hm.fine
 have hsz:=h.sz
 have hal:=h.al
 have h3:=hf.hi
 unfold stepU
 by_cases hb:m.2.2<0
 ·rw [if_pos hb]
  obtain ⟨hb1,hn⟩:=hm.nm hb
  have h1:=hf.al
  have h2:=hf.lo
  refine ⟨⟨by simp only;omega,max124 hal h1,fun p hp=>?_⟩,by simp only;omega⟩
  rcases List.mem_append.1 hp with hp|hp
  ·obtain ⟨q1,q2,q3⟩:=h.pl p hp
   exact ⟨q1.mono (by simp only;omega) (by simp only;omega),q2,q3⟩
  ·rw [List.mem_singleton.1 hp]
   refine ⟨⟨by simp [loP],by simp,?_,by simp,⟨i,m,rfl,hi,rfl,?_,fun _=>?_⟩,?_,⟨fun _=>rfl,Int.le_refl _⟩,hf⟩,rfl,rfl⟩
   ·simp only [hiP];rw [if_neg (by omega)];omega
   ·simp only;omega
   ·simp only;omega
   ·intro q;simp only at q;omega
 ·rw [if_neg hb]
  obtain ⟨hw,hw2⟩:=hm.word (by omega)
  have h1:=hf.al
  rw [← hw] at h1
  by_cases h0:m.2.2=0
  ·rw [if_pos h0]
   exact ⟨h,by omega⟩
  ·rw [if_neg h0]
   have g1:=upS_ge (n:=m.2.2) (m:=8) (by omega)
   have g2:=upS_mod m.2.2 8
   refine ⟨⟨by simp only;omega,?_,fun p hp=>?_⟩,by simp only;omega⟩
   ·simp only;split
    ·exact max124 hal h1
    ·exact hal
   ·rcases List.mem_append.1 hp with hp|hp
    ·obtain ⟨q1,q2,q3⟩:=h.pl p hp
     exact ⟨q1.mono (by simp only;omega) (by simp only;split<;>omega),q2,q3⟩
    ·rw [List.mem_singleton.1 hp]
     refine ⟨⟨by simp [loP],by simp,?_,by simp,⟨i,m,rfl,hi,rfl,?_,fun q=>?_⟩,?_,?_,hf⟩,rfl,rfl⟩
     ·simp only [hiP,loP];rw [if_pos (by omega)];omega
     ·simp only;omega
     ·simp only;rw [if_pos q];omega
     ·intro q;simp only at q ⊢;omega
     ·exact ⟨fun _=>rfl,Int.le_refl _⟩
theorem ufold_ok {E:Int→LayT} {l:List Mem} (hm:∀ m ∈ l,MemFit E m):∀ (r:List Mem) (i:Nat) (s:LayT),l.drop i=r→UnOK E l s→UnOK E l (foldU E i r s)∧(foldU E i r s).size≤max s.size 16385:=by
 intro r
 induction r with
 | nil=>intro i s _ h;exact ⟨h,by simp only [foldU];omega⟩
 | cons m r ih =>
  intro i s hr h
  have hg:l[i]?=some m:=by
   have:=congrArg (·[0]?) hr
   simpa using this
  have htl:l.drop (i+1)=r:=by
   have:=congrArg List.tail hr
   simpa using this
  obtain ⟨g1,g2⟩:=ustep_ok h hg (hm m (List.mem_of_getElem? hg))
  obtain ⟨k1,k2⟩:=ih (i+1) _ htl g1
  exact ⟨k1,by simp only [foldU];omega⟩
theorem union_ok {E:Int→LayT} {l:List Mem} (hm:∀ m ∈ l,MemFit E m):((unionL E l).align=1∨(unionL E l).align=2∨(unionL E l).align=4)∧1≤(unionL E l).size∧(unionL E l).size % (unionL E l).align=0 ∧
  ∀ p ∈ (unionL E l).pl,PlOK E l (8*(unionL E l).size) (unionL E l).align p∧p.off=0∧p.bit=0:=by
 have h:=(ufold_ok hm l 0 ⟨1,1,[]⟩ rfl ⟨by simp,.inl rfl,fun p hp=>by cases hp⟩).1
 unfold unionL
 generalize foldU E 0 l ⟨1,1,[]⟩=s at *
 have h1:=h.al
 have h2:=h.sz
 have g3:=upS_ge (n:=s.size) (m:=s.align) (by omega)
 dsimp only
 refine ⟨h1,by omega,upS_mod ..,fun p hp=>?_⟩
 obtain ⟨q1,q2,q3⟩:=h.pl p hp
 exact ⟨q1.mono (by omega) (Int.le_refl _),q2,q3⟩
theorem foldS_congr {E E':Int→LayT}:∀ (l:List Mem) (i:Nat) (s:AtT),(∀ m ∈ l,E m.2.1=E' m.2.1)→foldS E i l s=foldS E' i l s:=by
 intro l
 induction l with
 | nil=>intro i s _;rfl
 | cons m r ih =>
  intro i s h
  have h1:=h m (by simp)
  have:stepS E s i m=stepS E' s i m:=by unfold stepS;rw [h1]
  simp only [foldS]
  rw [this]
  exact ih _ _ fun x hx=>h x (by simp [hx])
theorem foldU_congr {E E':Int→LayT}:∀ (l:List Mem) (i:Nat) (s:LayT),(∀ m ∈ l,E m.2.1=E' m.2.1)→foldU E i l s=foldU E' i l s:=by
 intro l
 induction l with
 | nil=>intro i s _;rfl
 | cons m r ih =>
  intro i s h
  have h1:=h m (by simp)
  have:stepU E s i m=stepU E' s i m:=by unfold stepU;rw [h1]
  simp only [foldU]
  rw [this]
  exact ih _ _ fun x hx=>h x (by simp [hx])
theorem rawL_congr {E E':Int→LayT} {r:TR} (h:∀ d ∈ deps r,E d=E' d):rawL E r=rawL E' r:=by
 have hm:∀ m ∈ r.mem,E m.2.1=E' m.2.1:=fun m hm=>h _ (by unfold deps;exact List.mem_append.2 (.inr (List.mem_map.2 ⟨m,hm,rfl⟩)))
 unfold rawL
 split
 ·rename_i k
  have:E r.elem=E' r.elem:=h _ (by unfold deps;rw [if_pos k];simp)
  rw [this]
 ·split
  ·unfold structL;rw [foldS_congr _ _ _ hm]
  ·split
   ·unfold unionL;rw [foldU_congr _ _ _ hm]
   ·rfl
theorem getT_some {rows:List TR} {id:Int} {r:TR} (h:getT rows id=some r):0≤id∧rows[id.toNat]?=some r:=by
 unfold getT at h
 split at h
 ·rename_i h0;exact ⟨h0,h⟩
 ·cases h
theorem lay_stable {rows:List TR} {rho:Nat→Nat} (hr:Ranked rows rho):∀ (f f':Nat) (id:Int),rho id.toNat<f→rho id.toNat<f'→layF rows f id=layF rows f' id∧bigF rows f id=bigF rows f' id:=by
 intro f
 induction f with
 | zero=>intro f' id h;omega
 | succ f ih =>
  intro f' id h h'
  cases f' with
  | zero=>omega
  | succ f' =>
   unfold layF bigF
   cases hg:getT rows id with
   | none=>exact ⟨rfl,rfl⟩
   | some r =>
    obtain ⟨h0,hi⟩:=getT_some hg
    have hd:∀ d ∈ deps r,layF rows f d=layF rows f' d∧bigF rows f d=bigF rows f' d:=fun d hd=>by
     obtain ⟨q1,q2,q3⟩:=hr _ _ hi d hd
     exact ih f' d (by omega) (by omega)
    dsimp only
    have e1:=rawL_congr (E:=layF rows f) (E':=layF rows f') fun d q=>(hd d q).1
    have e2:(deps r).any (bigF rows f)=(deps r).any (bigF rows f'):=by
     have:∀ l:List Int,(∀ d ∈ l,bigF rows f d=bigF rows f' d)→l.any (bigF rows f)=l.any (bigF rows f'):=by
      intro l
      induction l with
      | nil=>intro _;rfl
      | cons x l ihl=>intro q;rw [List.any_cons,List.any_cons,q x (by simp),ihl fun d hd=>q d (by simp [hd])]
     exact this _ fun d q=>(hd d q).2
    rw [e1,e2]
    exact ⟨rfl,rfl⟩
section
variable {rows:List TR} {rho:Nat→Nat} {F:Nat}
theorem lay_eq (hr:Ranked rows rho) (hF:∀ i,i<rows.length→rho i<F) {id:Int} {r:TR} (hg:getT rows id=some r) :
  layF rows F id=capL (rawL (layF rows F) r)∧bigF rows F id=(decide (16384<(rawL (layF rows F) r).size) || (deps r).any (bigF rows F)):=by
 obtain ⟨h0,hi⟩:=getT_some hg
 have hlt:=hF _ (List.getElem?_eq_some_iff.1 hi).1
 obtain ⟨e1,e2⟩:=lay_stable hr F (F+1) id hlt (by omega)
 rw [e1,e2]
 have u1:layF rows (F+1) id=capL (rawL (layF rows F) r):=by conv=>lhs;unfold layF;rw [hg]
 have u2:bigF rows (F+1) id=(decide (16384<(rawL (layF rows F) r).size) || (deps r).any (bigF rows F)):=by conv=>lhs;unfold bigF;rw [hg]
 exact ⟨u1,u2⟩
theorem acc_kind (ha:AccP rows) {i:Nat} {r:TR} (hi:rows[i]?=some r):1≤r.kind∧r.kind≤16∧(r.kind=14→longS r.len=true)∧(r.done=true→r.kind=15∨r.kind=16)∧(r.done=false→r.mem=[]):=by
 by_cases h:i<11
 ·have:=ha.basic i r hi h
  unfold basicR at this
  simp only [decide_eq_true_eq] at this
  obtain ⟨h1,h2,h3,h4,h5,h6⟩:=this
  refine ⟨by omega,by omega,fun q=>by omega,fun q=>?_,fun _=>h5⟩
  rw [h6] at q;cases q
 ·have:=(ha.row i r hi (by omega)).1
  unfold shapedR at this
  split at this
  ·rename_i k
   simp only [decide_eq_true_eq] at this
   obtain ⟨h1,h2,h3,h4,h5⟩:=this
   refine ⟨by omega,by omega,fun q=>by omega,fun q=>?_,fun _=>h3⟩
   rw [h4] at q;cases q
  ·split at this
   ·rename_i k
    simp only [Bool.and_eq_true,decide_eq_true_eq] at this
    obtain ⟨⟨h1,h2,h3,h4⟩,h5⟩:=this
    refine ⟨by omega,by omega,fun _=>h5,fun q=>?_,fun _=>h2⟩
    rw [h3] at q;cases q
   ·split at this
    ·rename_i k
     simp only [Bool.and_eq_true,decide_eq_true_eq] at this
     obtain ⟨⟨h1,h2,h3,h4⟩,h5⟩:=this
     refine ⟨by omega,by omega,fun q=>by omega,fun q=>?_,fun _=>h3⟩
     rw [h4] at q;cases q
    ·split at this
     ·rename_i k
      simp only [Bool.and_eq_true,decide_eq_true_eq] at this
      exact ⟨by omega,by omega,fun q=>by omega,fun _=>k,this.1.2.2⟩
     ·cases this
theorem memsE_all {w:Int→Bool} {k:Int→Int} {h:Int→Bool}:∀ {l:List Mem} {seen:List (List UInt8)},memsE w k h seen l=0→∀ m ∈ l,∃ s,memE w k h s m=0:=by
 intro l
 induction l with
 | nil=>intro seen _ m hm;cases hm
 | cons x r ih =>
  intro seen q m hm
  unfold memsE at q
  split at q
  ·rename_i h1
   rcases List.mem_cons.1 hm with rfl|hm
   ·exact ⟨seen,h1⟩
   ·exact ih q m hm
  ·rename_i h1;exact absurd q h1
structure MemP (w:Int→Bool) (k:Int→Int) (h:Int→Bool) (m:Mem):Prop where
 has:h m.2.1=true
 whole:w m.2.1=true
 bits:m.2.2 = -1∨wideK (k m.2.1) m.2.2=true
 nm:m.1=[]→0≤m.2.2
 nm2:m.1≠[]→m.2.2≠0
theorem memE_p {w:Int→Bool} {k:Int→Int} {h:Int→Bool} {s:List (List UInt8)} {m:Mem} (q:memE w k h s m=0):MemP w k h m:=by
 unfold memE at q
 split at q
 ·cases q
 ·rename_i a1
  split at q
  ·cases q
  ·rename_i a2
   split at q
   ·cases q
   ·rename_i a3
    refine ⟨by simpa using a1,by simpa using a2,?_,fun e=>?_,fun e=>?_⟩
    ·by_cases c:m.2.2 = -1
     ·exact .inl c
     ·right
      cases hw:wideK (k m.2.1) m.2.2 with
      | true=>rfl
      | false=>exact absurd ⟨c,hw⟩ a3
    ·rw [if_pos e] at q
     split at q
     ·cases q
     ·omega
    ·rw [if_neg e] at q
     split at q
     ·cases q
     ·rename_i a4
      intro c;exact a4 (.inr (.inl c))
theorem width_k {k:Int} (h1:2≤k) (h2:k≤13):widthS k=1∨widthS k=2∨widthS k=4:=by
 unfold widthS;split
 ·exact .inl rfl
 ·split
  ·exact .inr (.inl rfl)
  ·split
   ·exact .inr (.inr rfl)
   ·omega
theorem capL_fine {l:LayT} (h1:l.align=1∨l.align=2∨l.align=4) (h2:1≤l.size):FineE (capL l):=by
 unfold capL
 split
 ·exact ⟨h1,by simp,by simp⟩
 ·exact ⟨h1,h2,by omega⟩
theorem fit_of {E:Int→LayT} {w:Int→Bool} {k:Int→Int} {h:Int→Bool} {l:List Mem} (hme:membersE w k h l=0) (hE:∀ m ∈ l,w m.2.1=true→FineE (E m.2.1)∧(2≤k m.2.1∧k m.2.1≤12→(E m.2.1).size=widthS (k m.2.1)∧(E m.2.1).align=widthS (k m.2.1))):∀ m ∈ l,MemFit E m:=by
 intro m hm
 unfold membersE at hme
 split at hme
 ·cases hme
 ·obtain ⟨s,hs⟩:=memsE_all hme m hm
  have hp:=memE_p hs
  obtain ⟨e1,e2⟩:=hE m hm hp.whole
  refine ⟨e1,fun q=>?_,fun q=>⟨?_,fun e=>?_⟩⟩
  ·rcases hp.bits with c|c
   ·omega
   ·unfold wideK at c
    split at c
    ·cases c
    ·rename_i c1
     obtain ⟨s1,s2⟩:=e2 (by omega)
     have hwk:=width_k (k:=k m.2.1) (by omega) (by omega)
     rw [s1,s2]
     refine ⟨rfl,?_⟩
     split at c
     ·simp only [decide_eq_true_eq] at c;omega
     ·simp only [decide_eq_true_eq] at c;omega
  ·rcases hp.bits with c|c
   ·exact c
   ·unfold wideK at c
    rw [if_pos (by omega)] at c
    cases c
  ·have:=hp.nm e;omega
theorem whole_fine (ha:AccP rows) (hr:Ranked rows rho) (hF:∀ i,i<rows.length→rho i<F):∀ (n:Nat) (id:Int),rho id.toNat<n→wholeS rows id=true →
  FineE (layF rows F id)∧(2≤kindS rows id∧kindS rows id≤12→(layF rows F id).size=widthS (kindS rows id)∧(layF rows F id).align=widthS (kindS rows id)):=by
 intro n
 induction n with
 | zero=>intro id h;omega
 | succ n ih =>
  intro id hn hw
  unfold wholeS at hw
  unfold kindS
  cases hg:getT rows id with
  | none=>rw [hg] at hw;cases hw
  | some r =>
   rw [hg] at hw
   dsimp only at hw ⊢
   obtain ⟨h0,hi⟩:=getT_some hg
   obtain ⟨k1,k16,klen,kdone,kmem⟩:=acc_kind ha hi
   rw [(lay_eq hr hF hg).1]
   have hmem:r ∈ rows:=List.mem_of_getElem? hi
   have hdep:=hr _ _ hi
   unfold wholeR at hw
   split at hw
   ·cases hw
   ·rename_i n01
    have hcap:∀ l:LayT,2≤r.kind∧r.kind≤12→l.size=widthS r.kind∧l.align=widthS r.kind→(capL l).size=widthS r.kind∧(capL l).align=widthS r.kind:=fun l hk hl=>by
     have:=width_k hk.1 (by omega)
     unfold capL
     rw [if_neg (by omega)]
     exact hl
    split at hw
    ·rename_i k14
     simp only [decide_eq_true_eq] at hw
     have hl:=klen k14
     unfold longS at hl
     simp only [decide_eq_true_eq] at hl
     have hd:=hdep r.elem (by unfold deps;rw [if_pos k14];simp)
     obtain ⟨e1,_⟩:=ih r.elem (by omega) (ha.whole r hmem k14)
     have hraw:rawL (layF rows F) r=⟨r.len*(layF rows F r.elem).size,(layF rows F r.elem).align,[]⟩:=by unfold rawL;rw [if_pos k14]
     rw [hraw]
     refine ⟨capL_fine e1.al ?_,fun q=>by omega⟩
     have h1:=e1.lo
     have h2:(1:Int)≤r.len:=by omega
     calc (1:Int)=1*1:=by omega
      _≤r.len*(layF rows F r.elem).size:=Int.mul_le_mul h2 h1 (by omega) (by omega)
    ·rename_i k14
     split at hw
     ·rename_i k15
      have hme:=ha.mems r hmem hw
      have hfit:=fit_of (E:=layF rows F) hme fun m hm hw2=>ih m.2.1 (by have:=hdep m.2.1 (by unfold deps;exact List.mem_append.2 (.inr (List.mem_map.2 ⟨m,hm,rfl⟩)));omega) hw2
      rcases k15 with k|k
      ·have hraw:rawL (layF rows F) r=structL (layF rows F) r.mem:=by unfold rawL;rw [if_neg k14,if_pos k]
       rw [hraw]
       obtain ⟨g1,g2,_⟩:=struct_ok hfit
       exact ⟨capL_fine g1 g2,fun q=>by omega⟩
      ·have hraw:rawL (layF rows F) r=unionL (layF rows F) r.mem:=by unfold rawL;rw [if_neg k14,if_neg (by omega),if_pos k]
       rw [hraw]
       obtain ⟨g1,g2,_⟩:=union_ok hfit
       exact ⟨capL_fine g1 g2,fun q=>by omega⟩
     ·rename_i k15
      have hraw:rawL (layF rows F) r=⟨widthS r.kind,widthS r.kind,[]⟩:=by unfold rawL;rw [if_neg k14,if_neg (by omega),if_neg (by omega)]
      rw [hraw]
      have hwk:=width_k (k:=r.kind) (by omega) (by omega)
      exact ⟨capL_fine hwk (by simp only;omega),fun q=>hcap _ q ⟨rfl,rfl⟩⟩
theorem whole_lay (ha:AccP rows) (hr:Ranked rows rho) (hF:∀ i,i<rows.length→rho i<F) {id:Int} (hw:wholeS rows id=true):FineE (layF rows F id):=(whole_fine ha hr hF (rho id.toNat+1) id (by omega) hw).1
theorem mems_fit (ha:AccP rows) (hr:Ranked rows rho) (hF:∀ i,i<rows.length→rho i<F) {r:TR} (hm:r ∈ rows) (hd:r.done=true):∀ m ∈ r.mem,MemFit (layF rows F) m :=
 fit_of (ha.mems r hm hd) fun m _ hw=>whole_fine ha hr hF (rho m.2.1.toNat+1) m.2.1 (by omega) hw
end
def plRow (p:PlT):List AV:=[.int .i64 p.mem,.int .i64 p.ty,.int .i64 p.off,.int .i64 p.bit,.int .i64 p.bits]
def plRows (l:List PlT):List (List AV):=l.map plRow
def layV (l:LayT) (cap:Cap):AV:= .agg [.int .i64 l.size,.int .i64 l.align,.is (plRows l.pl) cap]
theorem up77_ok (h:Heap) (n m:Int) (h0:0≤n∧n≤1000000000) (h1:1≤m∧m≤1000000000):Ccall tab 128 [.int .i64 n,.int .i64 m] h=some (.int .i64 (upS n m),h):=by
 have g:=upS_ge (n:=n) (m:=m) (by omega)
 have w1:IntKind.i64.wrap (n+m)=n+m:=IntWalk.i64_in _ (by omega)
 have w2:IntKind.i64.wrap (n+m - 1)=n+m - 1:=IntWalk.i64_in _ (by omega)
 have e3:(n+m - 1).tdiv m=(n+m - 1) / m:=Int.tdiv_eq_ediv_of_nonneg (by omega)
 have q1:0≤(n+m - 1) / m:=Int.ediv_nonneg (by omega) (by omega)
 have q2:(n+m - 1) / m≤n+m - 1:=Int.ediv_le_self _ (by omega)
 have w3:IntKind.i64.wrap ((n+m - 1) / m)=(n+m - 1) / m:=IntWalk.i64_in _ (by omega)
 have w4:IntKind.i64.wrap ((n+m - 1) / m*m)=(n+m - 1) / m*m:=IntWalk.i64_in _ (by unfold upS at g;omega)
 have hm:¬ m=0:=by omega
 unfold upS
 refine Ccall_own rfl rfl rfl rfl ?_
 clear g h0 h1 q1 q2
 repeat (any_goals first|simp -dsimp (maxSteps:=4000000) (maxDischargeDepth:=8) -implicitDefEqProofs [*,-Int.not_le,-Int.not_lt,amLt]|with_reducible (first|apply cB|apply iB)<;>intro _|intro _)
def CapP (G:Heap) (D:List (List AV)) (cap:Cap):Prop:=(cap = .nil∧D=[])∨∃ k,cap = .tok k 5∧G[k]?=some .tok
def notCap (cap:Cap) (k:Nat):Prop:=∀ s,cap ≠ .tok k s
theorem put_ok (G:Heap) (L:Nat) (a b:AV) (D:List (List AV)) (cap:Cap) (p:PlT) (hL:G[L]?=some (.cells [a,b,.is D cap])) (hc:CapP G D cap) (hD:D.length≤100) :
  ∃ G',(G.length≤G'.length∧∀ k,k<G.length→k≠L→notCap cap k→G'[k]?=G[k]?)∧G'[L]?=some (.cells [a,b,.is (D ++ [plRow p]) (.tok G.length 5)])∧G'[G.length]?=some .tok ∧
   Ccall tab 127 [.agg (plRow p),.mp L 0] G=some (.tup [],G'):=by
 have ll:=(List.getElem?_eq_some_iff.1 hL).1
 have hst:strip.stripL (plRow p)=plRow p:=rfl
 have him:imm.immL (plRow p)=true:=rfl
 have hsc:(plRow p).all isSc=true:=rfl
 have hln:(plRow p).length=5:=rfl
 have hrmy:roomy (D.length+1) 40=true:=roomy_sm (by omega) (by decide)
 have hap:=appF_row G.length 5 40 D (plRow p) cap .full (G ++ [Blk.free])
 have hlc:¬ L=G.length:=by omega
 rcases hc with ⟨rfl,rfl⟩|⟨k,rfl,hk⟩
 ·have hrm2:roomOK .nil 5 [] (G ++ [Blk.free])=true:=rfl
  have hN:newF G.length .tok (.is ([] ++ [plRow p]) (.tok G.length 5)) (spend .nil (G ++ [Blk.free]))=some (.is [plRow p] (.tok G.length 5),G ++ [.tok]):=by simp [newF,spend]
  rw [hst,hln,him,hsc,hrmy,hrm2,if_pos ⟨rfl,rfl,rfl⟩,if_pos rfl,if_pos rfl,hN] at hap
  have g1:∀ x,(G ++ x)[L]?=some (.cells [a,b,.is [] .nil]):=fun x=>rapp hL x
  have s1:∀ x b,(G ++ x).set L b=G.set L b ++ x:=fun x b=>by rw [List.set_append_left _ _ ll]
  refine ⟨List.set G L (.cells [a,b,.is [plRow p] (.tok G.length 5)]) ++ [.tok],⟨by simp,fun j hj h1 h2=>?_⟩,?_,?_,?_⟩
  ·rw [List.getElem?_append_left (by simpa using hj),List.getElem?_set_ne (Ne.symm h1)]
  ·rw [List.getElem?_append_left (by simpa using ll),List.getElem?_set,if_pos rfl,if_pos ll];rfl
  ·rw [List.getElem?_append_right (by simp),List.length_set,Nat.sub_self];rfl
  ·unfold plRow at *
   refine Ccall_over rfl rfl rfl rfl ?_
   clear hL ll hst him hsc hln hrmy hrm2 hN hD
   repeat (any_goals first|simp -dsimp (maxSteps:=4000000) (maxDischargeDepth:=8) -implicitDefEqProofs [*,-Int.not_le,-Int.not_lt,amLt]|with_reducible (first|apply cB|apply iB)<;>intro _|intro _)
 ·have hkL:¬ k=L:=fun e=>by rw [e,hL] at hk;cases hk
  have lk:=(List.getElem?_eq_some_iff.1 hk).1
  have hrm2:roomOK (.tok k 5) 5 D (G ++ [Blk.free])=true:=roomOK_tok (rapp hk _) 5 D
  have s2:∀ x b,(G ++ x).set k b=G.set k b ++ x:=fun x b=>by rw [List.set_append_left _ _ lk]
  have hN:newF G.length .tok (.is (D ++ [plRow p]) (.tok G.length 5)) (spend (.tok k 5) (G ++ [Blk.free]))=some (.is (D ++ [plRow p]) (.tok G.length 5),G.set k .dead ++ [.tok]):=by
   have hlen:(G.set k Blk.dead).length=G.length:=List.length_set ..
   simp only [spend,s2,newF]
   rw [List.getElem?_append_right (by rw [hlen];exact Nat.le_refl _),hlen,Nat.sub_self]
   simp only [List.getElem?_cons_zero,Option.some.injEq,Prod.mk.injEq,true_and]
   rw [List.set_append_right _ _ (by rw [hlen];exact Nat.le_refl _),hlen,Nat.sub_self];rfl
  rw [hst,hln,him,hsc,hrmy,hrm2,if_pos ⟨rfl,rfl,rfl⟩,if_pos rfl,if_pos rfl,hN] at hap
  have g1:∀ x,(G ++ x)[L]?=some (.cells [a,b,.is D (.tok k 5)]):=fun x=>rapp hL x
  have g4:∀ x,(G.set k .dead ++ x)[L]?=some (.cells [a,b,.is D (.tok k 5)]):=fun x=>by rw [List.getElem?_append_left (by simpa using ll),List.getElem?_set_ne hkL];exact hL
  have s3:∀ x b,(G.set k .dead ++ x).set L b=(G.set k .dead).set L b ++ x:=fun x b=>by rw [List.set_append_left _ _ (by simpa using ll)]
  refine ⟨List.set (G.set k .dead) L (.cells [a,b,.is (D ++ [plRow p]) (.tok G.length 5)]) ++ [.tok],⟨by simp,fun j hj h1 h2=>?_⟩,?_,?_,?_⟩
  ·have h3:k≠j:=fun e=>h2 5 (by rw [e])
   rw [List.getElem?_append_left (by simpa using hj),List.getElem?_set_ne (Ne.symm h1),List.getElem?_set_ne h3]
  ·rw [List.getElem?_append_left (by simpa using ll),List.getElem?_set,if_pos rfl,if_pos (by simpa using ll)]
  ·rw [List.getElem?_append_right (by simp),List.length_set,List.length_set,Nat.sub_self];rfl
  ·unfold plRow at *
   refine Ccall_over rfl rfl rfl rfl ?_
   clear hL ll hst him hsc hln hrmy hrm2 hN hD hk lk hkL
   repeat (any_goals first|simp -dsimp (maxSteps:=4000000) (maxDischargeDepth:=8) -implicitDefEqProofs [*,-Int.not_le,-Int.not_lt,amLt]|with_reducible (first|apply cB|apply iB)<;>intro _|intro _)
section
variable {H:Heap} {T R M cap:Nat} {ex:Bool} {rows:List TR}
theorem len_ok (ht:TabAt H T R M cap ex rows):Ccall tab 63 [.mp T 0] H=some (.int .i64 rows.length,H):=by
 have ha:=alive_ok ht.t0
 have hT:=ht.t0
 refine Ccall_over rfl rfl rfl rfl ?_
 clear ht
 repeat (any_goals first|simp -dsimp (maxSteps:=4000000) (maxDischargeDepth:=8) -implicitDefEqProofs [*,-Int.not_le,-Int.not_lt,amLt]|with_reducible (first|apply cB|apply iB)<;>intro _|intro _)
theorem trow_ok (ht:TabAt H T R M cap ex rows) {id:Int} {r:TR} (hg:getT rows id=some r) (hl:r.mem.length≤16777216) :
  Ccall tab 71 [.mp T 0,.int .i64 id] H=some (.tup [.agg (trow (eraseT r)),.bool true],H ++ [.cells (trow (eraseT r))]):=by
 obtain ⟨h0,hi⟩:=getT_some hg
 have hh:hasS rows id=true:=by unfold hasS;rw [hg];rfl
 have hb:=fun x=>has_ok (ht.app x).t0 id
 rw [hh] at hb
 have hlt:=(List.getElem?_eq_some_iff.1 hi).1
 have h1:id<rows.length:=by omega
 have hrow:=cells_row hi
 have hcl:=cells_len rows
 have hle:id.toNat*6+6≤(cellsT rows).length:=by omega
 have htw:=fun h=>twin_ok h r hl
 have hT:=ht.t
 have hR:=ht.r
 have hww:trow { r with cap:= .no }=trow (eraseT r):=rfl
 rw [hww] at htw
 have hln:(trow (eraseT r)).length=6:=rfl
 have hsc:(trow (eraseT r)).all isSc=true:=rfl
 have hsc2:∃ a0 a1 a2 a3 a4 a5,trow (eraseT r)=[a0,a1,a2,a3,a4,a5]∧isSc a0=true∧isSc a1=true∧isSc a2=true∧isSc a3=true∧isSc a4=true∧isSc a5=true:=⟨_,_,_,_,_,_,rfl,rfl,rfl,rfl,rfl,rfl,rfl⟩
 obtain ⟨a0,a1,a2,a3,a4,a5,ea,c0,c1,c2,c3,c4,c5⟩:=hsc2
 rw [ea] at htw ⊢
 generalize cellsT rows=ct at *
 generalize trow r=R0 at *
 refine Ccall_over rfl rfl rfl rfl ?_
 clear ht hg hi hh hlt hcl hl hww hln hsc ea
 repeat (any_goals first|simp -dsimp (maxSteps:=4000000) (maxDischargeDepth:=8) -implicitDefEqProofs [*,-Int.not_le,-Int.not_lt,amLt,ap4]|with_reducible (first|apply cB|apply iB)<;>intro _|intro _)
end
theorem maxI1 (a b:Int):(if b≤a then a else b)=max a b:=by split<;>omega
theorem put_pl (G:Heap) (L:Nat) (a b:AV) (l:List PlT) (cap:Cap) (p:PlT) (hL:G[L]?=some (.cells [a,b,.is (plRows l) cap])) (hc:CapP G (plRows l) cap) (hD:l.length≤100) :
  ∃ G',(G.length≤G'.length∧∀ k,k<G.length→k≠L→notCap cap k→G'[k]?=G[k]?)∧G'[L]?=some (.cells [a,b,.is (plRows (l ++ [p])) (.tok G.length 5)])∧CapP G' (plRows (l ++ [p])) (.tok G.length 5) ∧
   Ccall tab 127 [.agg (plRow p),.mp L 0] G=some (.tup [],G'):=by
 obtain ⟨G',h1,h2,h3,h4⟩:=put_ok G L a b (plRows l) cap p hL hc (by unfold plRows;rw [List.length_map];exact hD)
 have e:plRows (l ++ [p])=plRows l ++ [plRow p]:=by simp [plRows]
 rw [e]
 exact ⟨G',h1,h2,.inr ⟨_,rfl,h3⟩,h4⟩
theorem acall_of {A:Tab} {g:Nat} {args:List AV} {h h':Heap} {v:AV} (hc:Ccall A g args h=some (v,h')):∃ w,Acall A g args h=some (v,h',w):=by
 unfold Ccall at hc
 obtain ⟨⟨v2,h2,w'⟩,q1,q2⟩:=Option.map_eq_some_iff.1 hc
 simp only [Prod.mk.injEq] at q2
 obtain ⟨rfl,rfl⟩:=q2
 exact ⟨w',q1⟩
theorem r18_told (G P:Heap) (x0 x4 x5 x15 x16 x17:AV) (E:List (Nat × AV)) (L N M:Nat) (pos i u sz al ty bits:Int) (nm:AV) (pl:AV) (hM:G[M]?=some (.cells [nm,.int .i64 ty,.int .i64 bits])) (hN:G[N]?=some (.cells [.int .i64 sz,.int .i64 al,pl])) (hu:u≠0) (d r o:Int)
  (hd:pos.tdiv u=d) (hr:pos.tmod u=r) (wd:IntKind.i64.wrap d=d) (wo:IntKind.i64.wrap (sz*d)=o)
  (hc:Ccall tab 127 [.agg [.int .i64 i,.int .i64 ty,.int .i64 o,.int .i64 r,.int .i64 bits],.mp L 0] G=some (.tup [],P)) :
  Brun tab 116 (.region true f107r18 [0,4,5,6,7,9,10,15,16,17] 0) (ofL ((0,x0) :: (4,x4) :: (5,x5) :: (6,.int .i64 pos) :: (7,.fn 127 [] [.mp L 0]) :: (8,.int .i64 i) :: (9,.mp M 0) :: (10,.mp N 0) :: (11,.int .i64 u) :: (15,x15) :: (16,x16) :: (17,x17) :: E)) G =
   some (.normal,ofL [(0,x0),(4,x4),(5,x5),(6,.int .i64 pos),(7,.fn 127 [] [.mp L 0]),(9,.mp M 0),(10,.mp N 0),(15,x15),(16,x16),(17,x17)],P):=by
 obtain ⟨w',hw'⟩:=acall_of hc
 refine Brun_told ?_
 clear hc
 simp [*,f107r18,f107q18,asteps,astep,stepRun,aop,HC.run,HC.rds,HC.wrs,HC.ofOpt,Blk.isFree,wanted,put,cellsOf,isSc,splice,cget,slen,ssz,scells,roomy,rowsz,Cap.tight,drawOK,freeOf,Rec.indep,disj,apart,AOper.looks,AOp.tmps,AO.tmps,pTmps,oTmps,Nat.testBit,ofL,isPure,tab,f127,fillp,imm,imm.immL,strip,strip.stripL,chunk,abin,List.replicate]
section
variable {K B L:Nat} {l:List Mem} {c0:Cap}
def envS (K B L:Nat) (l:List Mem) (c0:Cap) (pos:Int) (i:Int):List (Nat × AV):=[(0,.mp K 0),(4,.mp B 0),(5,.mp L 0),(6,.int .i64 pos),(7,.fn 127 [] [.mp L 0]),(15,.is (memRows l) c0),(16,.int .i64 l.length),(17,.int .i64 i)]
theorem struct_step (E:Int→LayT) (s:AtT) (i:Nat) (m:Mem) (G G1:Heap) (cap c2:Cap) (hl:l.length≤64) (hi:l[i]?=some m) (hm:MemFit E m) (hs:AtOK E l s) (hps:s.pos≤i*131200) (hpl:s.pl.length≤64)
  (hlook:Ccall tab 72 [.mp K 0,.int .i64 m.2.1] (G ++ [.cells (memRow m),.free])=some (layV (E m.2.1) c2,G1)) (hL:G1[L]?=some (.cells [.int .i64 0,.int .i64 s.al,.is (plRows s.pl) cap])) (hM:G1[G.length]?=some (.cells (memRow m))) (hF:G1[G.length+1]?=some .free) (hLM:L<G.length) (hc:CapP G1 (plRows s.pl) cap) :
  ∃ G2 cap2,G1.length≤G2.length∧(∀ k,k<G1.length→k≠G.length+1→k≠L→notCap cap k→G2[k]?=G1[k]?)∧G2[L]?=some (.cells [.int .i64 0,.int .i64 (stepS E s i m).al,.is (plRows (stepS E s i m).pl) cap2])∧CapP G2 (plRows (stepS E s i m).pl) cap2∧(∀ k,cap2 = .tok k 5→cap = .tok k 5∨G1.length≤k) ∧
   Brun tab 116 f107l5 (ofL (envS K B L l c0 s.pos i)) G=some (.normal,ofL (envS K B L l c0 (stepS E s i m).pos (i+1)),G2):=by
 have hil:=(List.getElem?_eq_some_iff.1 hi).1
 have hrow:(memRows l)[i]?=some (memRow m):=by simp [memRows,hi]
 have hrow2:∀ hh:i<(memRows l).length,(memRows l)[i]=memRow m:=fun hh=>(List.getElem?_eq_some_iff.1 hrow).2
 have hml:=memRows_len l
 have h1:(i:Int)<l.length:=by omega
 have e3:¬ (l.length:Int)≤i:=by omega
 have hw64:=cw64 i (by omega)
 have hf:=hm.fine
 have hlo:=hf.lo
 have hhi:=hf.hi
 have hal:=hf.al
 have hsp:=hs.pos
 have hsal:=hs.al
 have ll:=(List.getElem?_eq_some_iff.1 hL).1
 have lm:=(List.getElem?_eq_some_iff.1 hM).1
 have lf:=(List.getElem?_eq_some_iff.1 hF).1
 have wu:IntKind.i64.wrap (8*(E m.2.1).size)=8*(E m.2.1).size:=IntWalk.i64_in _ (by omega)
 have hpos:s.pos≤9000000:=by omega
 have hlay:layV (E m.2.1) c2 = .agg [.int .i64 (E m.2.1).size,.int .i64 (E m.2.1).align,.is (plRows (E m.2.1).pl) c2]:=rfl
 rw [hlay] at hlook
 have hn1:¬ G.length+1=L:=by omega
 have hn2:¬ G.length+1=G.length:=by omega
 have hEx:∀ b,(G1.set (G.length+1) b)[G.length+1]?=some b:=fun b=>by rw [List.getElem?_set,if_pos rfl,if_pos lf]
 have hLx:∀ b,(G1.set (G.length+1) b)[L]?=some (.cells [.int .i64 0,.int .i64 s.al,.is (plRows s.pl) cap]):=fun b=>by rw [List.getElem?_set_ne hn1];exact hL
 have hMx:∀ b,(G1.set (G.length+1) b)[G.length]?=some (.cells (memRow m)):=fun b=>by rw [List.getElem?_set_ne hn2];exact hM
 have hlen:∀ b,(G1.set (G.length+1) b).length=G1.length:=fun b=>List.length_set ..
 have hce:∀ cs,CapP (G1.set (G.length+1) (.cells cs)) (plRows s.pl) cap:=fun cs=>by
  rcases hc with hc|⟨k,q1,q2⟩
  ·exact .inl hc
  ·have:G.length+1≠k:=fun e=>by rw [← e,hF] at q2;cases q2
   exact .inr ⟨k,q1,by rw [List.getElem?_set_ne this];exact q2⟩
 have hnc:notCap cap (G.length+1):=fun s' q=>by
  rcases hc with ⟨q1,_⟩|⟨k,q1,q2⟩
  ·rw [q1] at q;cases q
  ·rw [q1] at q;cases q;rw [hF] at q2;cases q2
 have hnm:notCap cap G.length:=fun s' q=>by
  rcases hc with ⟨q1,_⟩|⟨k,q1,q2⟩
  ·rw [q1] at q;cases q
  ·rw [q1] at q;cases q;rw [hM] at q2;cases q2
 obtain ⟨eb,heb⟩:∃ eb:List AV,eb=[.int .i64 (E m.2.1).size,.int .i64 (E m.2.1).align,.is (plRows (E m.2.1).pl) c2]:=⟨_,rfl⟩
 have hput:∀ (p:PlT) (al':Int),∃ P,P[L]?=some (.cells [.int .i64 0,.int .i64 s.al,.is (plRows (s.pl ++ [p])) (.tok G1.length 5)])∧P[G.length+1]?=some (.cells eb)∧P[G.length]?=some (.cells (memRow m))∧Ccall tab 127 [.agg (plRow p),.mp L 0] (G1.set (G.length+1) (.cells eb))=some (.tup [],P) ∧
   (G1.length≤(P.set L (.cells [.int .i64 0,.int .i64 al',.is (plRows (s.pl ++ [p])) (.tok G1.length 5)])).length∧(∀ k,k<G1.length→k≠G.length+1→k≠L→notCap cap k→(P.set L (.cells [.int .i64 0,.int .i64 al',.is (plRows (s.pl ++ [p])) (.tok G1.length 5)]))[k]?=G1[k]?) ∧
    (P.set L (.cells [.int .i64 0,.int .i64 al',.is (plRows (s.pl ++ [p])) (.tok G1.length 5)]))[L]?=some (.cells [.int .i64 0,.int .i64 al',.is (plRows (s.pl ++ [p])) (.tok G1.length 5)]) ∧
    CapP (P.set L (.cells [.int .i64 0,.int .i64 al',.is (plRows (s.pl ++ [p])) (.tok G1.length 5)])) (plRows (s.pl ++ [p])) (.tok G1.length 5)) ∧
   (∀ k,k<G1.length→k≠G.length+1→k≠L→notCap cap k→P[k]?=G1[k]?)∧CapP P (plRows (s.pl ++ [p])) (.tok G1.length 5)∧G1.length≤P.length:=fun p al'=>by
  obtain ⟨P,⟨p1,p2⟩,p3,p4,p5⟩:=put_pl (G1.set (G.length+1) (.cells eb)) L (.int .i64 0) (.int .i64 s.al) s.pl cap p (hLx _) (hce _) (by omega)
  rw [hlen] at p1 p3 p4
  have lP:=(List.getElem?_eq_some_iff.1 p3).1
  have pk:∀ k,k<G1.length→k≠G.length+1→k≠L→notCap cap k→P[k]?=G1[k]?:=fun k k1 k2 k3 k4=>by rw [p2 k (by rw [hlen];exact k1) k3 k4,List.getElem?_set_ne (Ne.symm k2)]
  refine ⟨P,p3,?_,?_,p5,⟨by rw [List.length_set];exact p1,fun k k1 k2 k3 k4=>?_,by rw [List.getElem?_set,if_pos rfl,if_pos lP],?_⟩,pk,p4,p1⟩
  ·rw [p2 _ (by rw [hlen];exact lf) hn1 hnc];exact hEx _
  ·rw [pk _ lm (Ne.symm hn2) (by omega) hnm];exact hM
  ·rw [List.getElem?_set_ne (Ne.symm k3)];exact pk k k1 k2 k3 k4
  ·rcases p4 with q|⟨k,q1,q2⟩
   ·exact .inl q
   ·have:L≠k:=fun e=>by rw [← e,p3] at q2;cases q2
    exact .inr ⟨k,q1,by rw [List.getElem?_set_ne this];exact q2⟩
 have htok:∀ k,Cap.tok G1.length 5 = .tok k 5→cap = .tok k 5∨G1.length≤k:=fun k q=>by right;cases q;exact Nat.le_refl _
 have hxset:∀ b0 b1,(G1.set (G.length+1) b0).set (G.length+1) b1=G1.set (G.length+1) b1:=fun b0 b1=>List.set_set ..
 unfold stepS
 by_cases hb:m.2.2<0
 ·rw [if_pos hb]
  dsimp only
  have hup:=fun h=>up77_ok h s.pos (8*(E m.2.1).align) (by omega) (by omega)
  have hg:=upS_ge (n:=s.pos) (m:=8*(E m.2.1).align) (by omega)
  have wa:IntKind.i64.wrap (8*(E m.2.1).align)=8*(E m.2.1).align:=IntWalk.i64_in _ (by omega)
  generalize upS s.pos (8*(E m.2.1).align)=a at *
  have td:a.tdiv 8=a / 8:=Int.tdiv_eq_ediv_of_nonneg (by omega)
  have wd:IntKind.i64.wrap (a / 8)=a / 8:=IntWalk.i64_in _ (by omega)
  have ws:IntKind.i64.wrap (a+8*(E m.2.1).size)=a+8*(E m.2.1).size:=IntWalk.i64_in _ (by omega)
  obtain ⟨P,p1,p2,p3,p4,⟨p5,p6,p7,p8⟩,_⟩:=hput ⟨i,m.2.1,a / 8,0,0⟩ (max s.al (E m.2.1).align)
  refine ⟨_,.tok G1.length 5,p5,p6,p7,p8,htok,?_⟩
  unfold envS
  unfold plRow at p4
  dsimp only at p4
  subst heb
  generalize plRows (s.pl ++ [⟨i,m.2.1,a / 8,0,0⟩])=PL at *
  generalize plRows (E m.2.1).pl=PE at *
  generalize (E m.2.1).size=sz at *
  generalize (E m.2.1).align=al at *
  obtain ⟨nm,ty,bits⟩:=m
  unfold memRow at *
  dsimp only at *
  clear hi hm hs hps hpl hL hM hc hf hlo hhi hal hsp hsal ll lm hpos hlay hce hg hput hil htok hnc hnm p5 p6 p7 p8 hlen lf
  generalize memRows l=X at *
  repeat (any_goals first|simp -dsimp (maxSteps:=4000000) (maxDischargeDepth:=8) -implicitDefEqProofs [*,-Int.not_le,-Int.not_lt,amLt,maxI1,ap4]|with_reducible (first|apply cB|apply iB)<;>intro _|intro _)
 ·rw [if_neg hb]
  obtain ⟨hw,hw2⟩:=hm.word (by omega)
  rw [← hw] at hal
  have hm1:m.2.2 ≠ -1:=by omega
  have htd:s.pos.tdiv (8*(E m.2.1).size)=s.pos / (8*(E m.2.1).size):=Int.tdiv_eq_ediv_of_nonneg hsp
  by_cases h0:m.2.2=0
  ·rw [if_pos h0]
   dsimp only
   have hup:=fun h=>up77_ok h s.pos (8*(E m.2.1).size) (by omega) (by omega)
   refine ⟨G1.set (G.length+1) (.cells eb),cap,by rw [hlen];exact Nat.le_refl _,fun k k1 k2 k3 k4=>by rw [List.getElem?_set_ne (Ne.symm k2)],hLx _,by rw [heb];exact hce _,fun k q => .inl q,?_⟩
   unfold envS
   subst heb
   generalize upS s.pos (8*(E m.2.1).size)=a at *
   generalize plRows s.pl=PL at *
   generalize plRows (E m.2.1).pl=PE at *
   generalize (E m.2.1).size=sz at *
   generalize (E m.2.1).align=al at *
   obtain ⟨nm,ty,bits⟩:=m
   unfold memRow at *
   dsimp only at *
   subst h0
   clear hi hm hs hps hpl hL hM hc hf hlo hhi hal hsp hsal ll lm hpos hlay hce hput hil htok hnc hnm hlen lf hw hw2
   generalize memRows l=X at *
   repeat (any_goals first|simp -dsimp (maxSteps:=4000000) (maxDischargeDepth:=8) -implicitDefEqProofs [*,-Int.not_le,-Int.not_lt,amLt,maxI1,ap4]|with_reducible (first|apply cB|apply iB)<;>intro _|intro _)
  ·rw [if_neg h0]
   dsimp only
   have hup:=fun h=>up77_ok h s.pos (8*(E m.2.1).size) (by omega) (by omega)
   obtain ⟨g1,g2,g3⟩:=moveS_ok (s:=s.pos) (u:=8*(E m.2.1).size) (b:=m.2.2) hsp (by omega) (by omega) hw2
   have gu:=upS_ge (n:=s.pos) (m:=8*(E m.2.1).size) (by omega)
   have w1:IntKind.i64.wrap (s.pos+m.2.2)=s.pos+m.2.2:=IntWalk.i64_in _ (by omega)
   have w2:IntKind.i64.wrap (s.pos+m.2.2 - 1)=s.pos+m.2.2 - 1:=IntWalk.i64_in _ (by omega)
   have td2:(s.pos+m.2.2 - 1).tdiv (8*(E m.2.1).size)=(s.pos+m.2.2 - 1) / (8*(E m.2.1).size):=Int.tdiv_eq_ediv_of_nonneg (by omega)
   have q1:0≤s.pos / (8*(E m.2.1).size)∧s.pos / (8*(E m.2.1).size)≤s.pos:=⟨Int.ediv_nonneg hsp (by omega),Int.ediv_le_self _ hsp⟩
   have q2:0≤(s.pos+m.2.2 - 1) / (8*(E m.2.1).size)∧(s.pos+m.2.2 - 1) / (8*(E m.2.1).size)≤s.pos+m.2.2 - 1:=⟨Int.ediv_nonneg (by omega) (by omega),Int.ediv_le_self _ (by omega)⟩
   have w3:IntKind.i64.wrap (s.pos / (8*(E m.2.1).size))=s.pos / (8*(E m.2.1).size):=IntWalk.i64_in _ (by omega)
   have w4:IntKind.i64.wrap ((s.pos+m.2.2 - 1) / (8*(E m.2.1).size))=(s.pos+m.2.2 - 1) / (8*(E m.2.1).size):=IntWalk.i64_in _ (by omega)
   have hz:¬ 8*(E m.2.1).size=0:=by omega
   have hmv:moveS s.pos (8*(E m.2.1).size) m.2.2=if s.pos / (8*(E m.2.1).size)=(s.pos+m.2.2 - 1) / (8*(E m.2.1).size) then s.pos else upS s.pos (8*(E m.2.1).size):=rfl
   generalize moveS s.pos (8*(E m.2.1).size) m.2.2=a at *
   generalize upS s.pos (8*(E m.2.1).size)=ua at *
   generalize s.pos / (8*(E m.2.1).size)=d1 at *
   generalize (s.pos+m.2.2 - 1) / (8*(E m.2.1).size)=d2 at *
   have td3:a.tdiv (8*(E m.2.1).size)=a / (8*(E m.2.1).size):=Int.tdiv_eq_ediv_of_nonneg (by omega)
   have tm3:a.tmod (8*(E m.2.1).size)=a % (8*(E m.2.1).size):=Int.tmod_eq_emod_of_nonneg (by omega)
   have q3:0≤a / (8*(E m.2.1).size)∧a / (8*(E m.2.1).size)≤a:=⟨Int.ediv_nonneg (by omega) (by omega),Int.ediv_le_self _ (by omega)⟩
   have w5:IntKind.i64.wrap (a / (8*(E m.2.1).size))=a / (8*(E m.2.1).size):=IntWalk.i64_in _ (by omega)
   obtain ⟨o,w6,ho⟩:∃ o,IntKind.i64.wrap ((E m.2.1).size*(a / (8*(E m.2.1).size)))=o∧(E m.2.1).size*(a / (8*(E m.2.1).size))=o:=⟨_,IntWalk.i64_in _ (by
    rcases hal with q|q|q<;>rw [q] at q3 ⊢<;>omega),rfl⟩
   rw [ho]
   clear ho
   have w7:IntKind.i64.wrap (a+m.2.2)=a+m.2.2:=IntWalk.i64_in _ (by omega)
   generalize a / (8*(E m.2.1).size)=d3 at *
   generalize a % (8*(E m.2.1).size)=r3 at *
   obtain ⟨P,p1,p2,p3,p4,⟨p5,p6,p7,p8⟩,p9,p10,p11⟩:=hput ⟨i,m.2.1,o,r3,m.2.2⟩ (max s.al (E m.2.1).size)
   have step:∀ (a':Int) (Q:Heap),(d1=d2→a=s.pos)→(d1≠d2→a=ua)→(m.1=[]→Q=P)→(m.1≠[]→Q=P.set L (.cells [.int .i64 0,.int .i64 (max s.al (E m.2.1).size),.is (plRows (s.pl ++ [⟨i,m.2.1,o,r3,m.2.2⟩])) (.tok G1.length 5)]))→a'=a+m.2.2 →
     Brun tab 116 f107l5 (ofL (envS K B L l c0 s.pos i)) G=some (.normal,ofL (envS K B L l c0 a' (i+1)),Q):=by
    intro a' Q k1 k2 k3 k4 k5
    subst k5
    unfold envS
    unfold plRow at p4
    dsimp only at p4
    subst heb
    generalize plRows (s.pl ++ [⟨i,m.2.1,o,r3,m.2.2⟩])=PL at *
    generalize plRows (E m.2.1).pl=PE at *
    generalize (E m.2.1).size=sz at *
    generalize (E m.2.1).align=al at *
    obtain ⟨nm,ty,bits⟩:=m
    unfold memRow at *
    dsimp only at *
    have e9:¬ bits<0:=hb
    clear hi hm hs hps hpl hL hM hc hf hlo hhi hal hsp hsal ll lm hpos hlay hce hput hil htok hnc hnm hlen lf hw hw2 p5 p6 p7 p8 p9 p10 p11 g1 g2 g3 gu q1 q2 q3 hmv
    generalize memRows l=X at *
    have hr18:=fun x0 x4 x5 x15 x16 x17 E=>r18_told (G1.set (G.length+1) (.cells [.int .i64 sz,.int .i64 al,.is PE c2])) P x0 x4 x5 x15 x16 x17 E L (G.length+1) G.length a i (8*sz) sz al ty bits (.str nm) (.is PE c2) (hMx _) (hEx _) hz d3 r3 o td3 tm3 w5 w6 p4
    by_cases c1:d1=d2
    ·replace k1:=k1 c1
     clear k2
     subst k1
     subst c1
     by_cases c2:nm=[]
     ·replace k3:=k3 c2
      clear k4
      subst c2
      repeat (any_goals first|simp -dsimp (maxSteps:=4000000) (maxDischargeDepth:=8) -implicitDefEqProofs [*,-Int.not_le,-Int.not_lt,amLt,maxI1,ap4]|with_reducible (first|apply cB|apply iB)<;>intro _|intro _)
     ·replace k4:=k4 c2
      clear k3
      repeat (any_goals first|simp -dsimp (maxSteps:=4000000) (maxDischargeDepth:=8) -implicitDefEqProofs [*,-Int.not_le,-Int.not_lt,amLt,maxI1,ap4]|with_reducible (first|apply cB|apply iB)<;>intro _|intro _)
    ·replace k2:=k2 c1
     clear k1
     subst k2
     by_cases c2:nm=[]
     ·replace k3:=k3 c2
      clear k4
      subst c2
      repeat (any_goals first|simp -dsimp (maxSteps:=4000000) (maxDischargeDepth:=8) -implicitDefEqProofs [*,-Int.not_le,-Int.not_lt,amLt,maxI1,ap4]|with_reducible (first|apply cB|apply iB)<;>intro _|intro _)
     ·replace k4:=k4 c2
      clear k3
      repeat (any_goals first|simp -dsimp (maxSteps:=4000000) (maxDischargeDepth:=8) -implicitDefEqProofs [*,-Int.not_le,-Int.not_lt,amLt,maxI1,ap4]|with_reducible (first|apply cB|apply iB)<;>intro _|intro _)
   have k1:d1=d2→a=s.pos:=fun q=>by rw [hmv,if_pos q]
   have k2:d1≠d2→a=ua:=fun q=>by rw [hmv,if_neg q]
   by_cases c2:m.1=[]
   ·rw [if_neg (fun q=>q c2)]
    exact ⟨P,.tok G1.length 5,p11,p9,p1,p10,htok,step _ P k1 k2 (fun _=>rfl) (fun q=>absurd c2 q) rfl⟩
   ·rw [if_pos c2]
    exact ⟨_,.tok G1.length 5,p5,p6,p7,p8,htok,step _ _ k1 k2 (fun q=>absurd q c2) (fun _=>rfl) rfl⟩
end
theorem app_pl (G:Heap) (D:List (List AV)) (cap:Cap) (p:PlT) (hc:CapP G D cap) (hD:D.length≤100) :
  ∃ N,appF G.length 5 40 (.is D cap) (.is [plRow p] .full) (G ++ [Blk.free])=some (.is (D ++ [plRow p]) (.tok G.length 5),N)∧N.length=G.length+1∧N[G.length]?=some .tok∧∀ k,k<G.length→notCap cap k→N[k]?=G[k]?:=by
 have hst:strip.stripL (plRow p)=plRow p:=rfl
 have him:imm.immL (plRow p)=true:=rfl
 have hsc:(plRow p).all isSc=true:=rfl
 have hln:(plRow p).length=5:=rfl
 have hrmy:roomy (D.length+1) 40=true:=roomy_sm (by omega) (by decide)
 have hap:=appF_row G.length 5 40 D (plRow p) cap .full (G ++ [Blk.free])
 rcases hc with ⟨rfl,rfl⟩|⟨k,rfl,hk⟩
 ·have hrm2:roomOK .nil 5 [] (G ++ [Blk.free])=true:=rfl
  have hN:newF G.length .tok (.is ([] ++ [plRow p]) (.tok G.length 5)) (spend .nil (G ++ [Blk.free]))=some (.is [plRow p] (.tok G.length 5),G ++ [.tok]):=by simp [newF,spend]
  rw [hst,hln,him,hsc,hrmy,hrm2,if_pos ⟨rfl,rfl,rfl⟩,if_pos rfl,if_pos rfl,hN] at hap
  exact ⟨_,hap,by simp,by simp,fun j hj _=>by rw [List.getElem?_append_left hj]⟩
 ·have lk:=(List.getElem?_eq_some_iff.1 hk).1
  have hrm2:roomOK (.tok k 5) 5 D (G ++ [Blk.free])=true:=roomOK_tok (rapp hk _) 5 D
  have s2:∀ x b,(G ++ x).set k b=G.set k b ++ x:=fun x b=>by rw [List.set_append_left _ _ lk]
  have hlen:(G.set k Blk.dead).length=G.length:=List.length_set ..
  have hN:newF G.length .tok (.is (D ++ [plRow p]) (.tok G.length 5)) (spend (.tok k 5) (G ++ [Blk.free]))=some (.is (D ++ [plRow p]) (.tok G.length 5),G.set k .dead ++ [.tok]):=by
   simp only [spend,s2,newF]
   rw [List.getElem?_append_right (by rw [hlen];exact Nat.le_refl _),hlen,Nat.sub_self]
   simp only [List.getElem?_cons_zero,Option.some.injEq,Prod.mk.injEq,true_and]
   rw [List.set_append_right _ _ (by rw [hlen];exact Nat.le_refl _),hlen,Nat.sub_self];rfl
  rw [hst,hln,him,hsc,hrmy,hrm2,if_pos ⟨rfl,rfl,rfl⟩,if_pos rfl,if_pos rfl,hN] at hap
  refine ⟨_,hap,by simp,?_,fun j hj h2=>?_⟩
  ·rw [List.getElem?_append_right (by rw [hlen];exact Nat.le_refl _),hlen,Nat.sub_self];rfl
  ·have h3:k≠j:=fun e=>h2 5 (by rw [e])
   rw [List.getElem?_append_left (by rw [hlen];exact hj),List.getElem?_set_ne h3]
theorem maxI2 (a b:Int):(if a<b then b else a)=max a b:=by split<;>omega
theorem r8u_told (G:Heap) (L N:Nat) (a b sz al:Int) (pl pe:AV) (x0 x4 x7 x11 x12 x13:AV) (E:List (Nat × AV)) (hLN:L≠N) (hL:G[L]?=some (.cells [.int .i64 a,.int .i64 b,pl])) (hN:G[N]?=some (.cells [.int .i64 sz,.int .i64 al,pe])) :
  Brun tab 92 (.region true f108r8 [0,4,5,7,8,11,12,13] 0) (ofL ((0,x0) :: (4,x4) :: (5,.mp L 0) :: (7,x7) :: (8,.mp N 0) :: (11,x11) :: (12,x12) :: (13,x13) :: E)) G =
   some (.normal,ofL [(0,x0),(4,x4),(5,.mp L 0),(7,x7),(8,.mp N 0),(11,x11),(12,x12),(13,x13)],G.set L (.cells [.int .i64 (max a sz),.int .i64 (max b al),pl])):=by
 have ll:=(List.getElem?_eq_some_iff.1 hL).1
 have hL2:∀ c,(G.set L c)[L]?=some c:=fun c=>by rw [List.getElem?_set,if_pos rfl,if_pos ll]
 have hN2:∀ c,(G.set L c)[N]?=some (.cells [.int .i64 sz,.int .i64 al,pe]):=fun c=>by rw [List.getElem?_set_ne hLN];exact hN
 refine Brun_told ?_
 clear ll
 simp [*,maxI2,f108r8,asteps,astep,stepRun,aop,HC.run,HC.rds,HC.wrs,HC.ofOpt,Blk.isFree,wanted,put,cellsOf,isSc,splice,cget,slen,ssz,scells,roomy,rowsz,Cap.tight,drawOK,freeOf,Rec.indep,disj,apart,AOper.looks,AOp.tmps,AO.tmps,pTmps,oTmps,Nat.testBit,ofL,isPure,fillp,abin,List.set_set]
section
variable {K B L:Nat} {l:List Mem} {c0:Cap}
def envU (K B L:Nat) (l:List Mem) (c0:Cap) (i:Int):List (Nat × AV):=[(0,.mp K 0),(4,.mp B 0),(5,.mp L 0),(11,.is (memRows l) c0),(12,.int .i64 l.length),(13,.int .i64 i)]
theorem union_step (E:Int→LayT) (s:LayT) (i:Nat) (m:Mem) (G G1:Heap) (cap c2:Cap) (hl:l.length≤64) (hi:l[i]?=some m) (hm:MemFit E m) (hs:UnOK E l s) (hpl:s.pl.length≤64)
  (hlook:Ccall tab 72 [.mp K 0,.int .i64 m.2.1] (G ++ [.cells (memRow m),.free])=some (layV (E m.2.1) c2,G1)) (hL:G1[L]?=some (.cells [.int .i64 s.size,.int .i64 s.align,.is (plRows s.pl) cap])) (hM:G1[G.length]?=some (.cells (memRow m))) (hF:G1[G.length+1]?=some .free) (hLM:L<G.length) (hc:CapP G1 (plRows s.pl) cap) :
  ∃ G2 cap2,G1.length≤G2.length∧(∀ k,k<G1.length→k≠G.length+1→k≠L→notCap cap k→G2[k]?=G1[k]?)∧G2[L]?=some (.cells [.int .i64 (stepU E s i m).size,.int .i64 (stepU E s i m).align,.is (plRows (stepU E s i m).pl) cap2])∧CapP G2 (plRows (stepU E s i m).pl) cap2∧(∀ k,cap2 = .tok k 5→cap = .tok k 5∨G1.length≤k) ∧
   Brun tab 92 f108l3 (ofL (envU K B L l c0 i)) G=some (.normal,ofL (envU K B L l c0 (i+1)),G2):=by
 have hil:=(List.getElem?_eq_some_iff.1 hi).1
 have hrow:(memRows l)[i]?=some (memRow m):=by simp [memRows,hi]
 have hrow2:∀ hh:i<(memRows l).length,(memRows l)[i]=memRow m:=fun hh=>(List.getElem?_eq_some_iff.1 hrow).2
 have hml:=memRows_len l
 have h1:(i:Int)<l.length:=by omega
 have e3:¬ (l.length:Int)≤i:=by omega
 have hw64:=cw64 i (by omega)
 have hf:=hm.fine
 have hlo:=hf.lo
 have hhi:=hf.hi
 have hal:=hf.al
 have hsal:=hs.al
 have hssz:=hs.sz
 have ll:=(List.getElem?_eq_some_iff.1 hL).1
 have lm:=(List.getElem?_eq_some_iff.1 hM).1
 have lf:=(List.getElem?_eq_some_iff.1 hF).1
 have hlay:layV (E m.2.1) c2 = .agg [.int .i64 (E m.2.1).size,.int .i64 (E m.2.1).align,.is (plRows (E m.2.1).pl) c2]:=rfl
 rw [hlay] at hlook
 have hn1:¬ G.length+1=L:=by omega
 have hn2:¬ G.length+1=G.length:=by omega
 have hn3:¬ L=G.length+1:=by omega
 have hn4:¬ L=G.length:=by omega
 have hn5:¬ G.length=L:=by omega
 have hlen:∀ b,(G1.set (G.length+1) b).length=G1.length:=fun b=>List.length_set ..
 obtain ⟨eb,heb⟩:∃ eb:List AV,eb=[.int .i64 (E m.2.1).size,.int .i64 (E m.2.1).align,.is (plRows (E m.2.1).pl) c2]:=⟨_,rfl⟩
 have hEx:∀ b,(G1.set (G.length+1) b)[G.length+1]?=some b:=fun b=>by rw [List.getElem?_set,if_pos rfl,if_pos lf]
 have hLx:∀ b,(G1.set (G.length+1) b)[L]?=some (.cells [.int .i64 s.size,.int .i64 s.align,.is (plRows s.pl) cap]):=fun b=>by rw [List.getElem?_set_ne hn1];exact hL
 have hMx:∀ b,(G1.set (G.length+1) b)[G.length]?=some (.cells (memRow m)):=fun b=>by rw [List.getElem?_set_ne hn2];exact hM
 have hEy:∀ b x,(G1.set (G.length+1) b ++ x)[G.length+1]?=some b:=fun b x=>rapp (hEx b) x
 have hLy:∀ b x,(G1.set (G.length+1) b ++ x)[L]?=some (.cells [.int .i64 s.size,.int .i64 s.align,.is (plRows s.pl) cap]):=fun b x=>rapp (hLx b) x
 have hMy:∀ b x,(G1.set (G.length+1) b ++ x)[G.length]?=some (.cells (memRow m)):=fun b x=>rapp (hMx b) x
 have hce:CapP (G1.set (G.length+1) (.cells eb)) (plRows s.pl) cap:=by
  rcases hc with hc|⟨k,q1,q2⟩
  ·exact .inl hc
  ·have:G.length+1≠k:=fun e=>by rw [← e,hF] at q2;cases q2
   exact .inr ⟨k,q1,by rw [List.getElem?_set_ne this];exact q2⟩
 have hnc:notCap cap (G.length+1):=fun s' q=>by
  rcases hc with ⟨q1,_⟩|⟨k,q1,q2⟩
  ·rw [q1] at q;cases q
  ·rw [q1] at q;cases q;rw [hF] at q2;cases q2
 have hnm:notCap cap G.length:=fun s' q=>by
  rcases hc with ⟨q1,_⟩|⟨k,q1,q2⟩
  ·rw [q1] at q;cases q
  ·rw [q1] at q;cases q;rw [hM] at q2;cases q2
 have hnl:notCap cap L:=fun s' q=>by
  rcases hc with ⟨q1,_⟩|⟨k,q1,q2⟩
  ·rw [q1] at q;cases q
  ·rw [q1] at q;cases q;rw [hL] at q2;cases q2
 have htok:∀ k,Cap.tok G1.length 5 = .tok k 5→cap = .tok k 5∨G1.length≤k:=fun k q=>by right;cases q;exact Nat.le_refl _
 have hxset:∀ b0 b1,(G1.set (G.length+1) b0).set (G.length+1) b1=G1.set (G.length+1) b1:=fun b0 b1=>List.set_set ..
 have hput:∀ p:PlT,∃ N,appF G1.length 5 40 (.is (plRows s.pl) cap) (.is [plRow p] .full) (G1.set (G.length+1) (.cells eb) ++ [.free])=some (.is (plRows (s.pl ++ [p])) (.tok G1.length 5),N)∧N[L]?=some (.cells [.int .i64 s.size,.int .i64 s.align,.is (plRows s.pl) cap])∧N[G.length+1]?=some (.cells eb)∧N[G.length]?=some (.cells (memRow m)) ∧
   ∀ cs:List AV,G1.length≤(N.set L (.cells cs)).length∧(∀ k,k<G1.length→k≠G.length+1→k≠L→notCap cap k→(N.set L (.cells cs))[k]?=G1[k]?)∧(N.set L (.cells cs))[L]?=some (.cells cs)∧(N.set L (.cells cs))[G.length+1]?=some (.cells eb)∧(N.set L (.cells cs))[G.length]?=some (.cells (memRow m))∧CapP (N.set L (.cells cs)) (plRows (s.pl ++ [p])) (.tok G1.length 5):=fun p=>by
  obtain ⟨N,n1,n2,n3,n4⟩:=app_pl (G1.set (G.length+1) (.cells eb)) (plRows s.pl) cap p hce (by unfold plRows;rw [List.length_map];omega)
  rw [hlen] at n1 n2 n3 n4
  have e:plRows (s.pl ++ [p])=plRows s.pl ++ [plRow p]:=by simp [plRows]
  rw [e]
  have nL:N[L]?=some (.cells [.int .i64 s.size,.int .i64 s.align,.is (plRows s.pl) cap]):=by rw [n4 L ll hnl];exact hLx _
  have nE:N[G.length+1]?=some (.cells eb):=by rw [n4 _ lf hnc];exact hEx _
  have nM:N[G.length]?=some (.cells (memRow m)):=by rw [n4 _ lm hnm];exact hMx _
  have lN:=(List.getElem?_eq_some_iff.1 nL).1
  refine ⟨N,n1,nL,nE,nM,fun cs=>⟨by rw [List.length_set];omega,fun k k1 k2 k3 k4=>?_,by rw [List.getElem?_set,if_pos rfl,if_pos lN],by rw [List.getElem?_set_ne hn3];exact nE,by rw [List.getElem?_set_ne hn4];exact nM,?_⟩⟩
  ·rw [List.getElem?_set_ne (Ne.symm k3),n4 k k1 k4,List.getElem?_set_ne (Ne.symm k2)]
  ·exact .inr ⟨G1.length,rfl,by rw [List.getElem?_set_ne (by omega)];exact n3⟩
 unfold stepU
 by_cases hb:m.2.2<0
 ·rw [if_pos hb]
  dsimp only
  obtain ⟨N,n1,n2,n3,n4,n5⟩:=hput ⟨i,m.2.1,0,0,0⟩
  obtain ⟨p1,p2,p3,p4,p5,p6⟩:=n5 [.int .i64 (max s.size (E m.2.1).size),.int .i64 (max s.align (E m.2.1).align),.is (plRows (s.pl ++ [⟨i,m.2.1,0,0,0⟩])) (.tok G1.length 5)]
  refine ⟨_,.tok G1.length 5,p1,p2,p3,p6,htok,?_⟩
  obtain ⟨_,_,t3,t4,_,_⟩:=n5 [.int .i64 s.size,.int .i64 s.align,.is (plRows (s.pl ++ [⟨i,m.2.1,0,0,0⟩])) (.tok G1.length 5)]
  have hr8:=fun x0 x4 x7 x11 x12 x13 E'=>r8u_told (N.set L (.cells [.int .i64 s.size,.int .i64 s.align,.is (plRows (s.pl ++ [⟨i,m.2.1,0,0,0⟩])) (.tok G1.length 5)])) L (G.length+1) s.size s.align (E m.2.1).size (E m.2.1).align (.is (plRows (s.pl ++ [⟨i,m.2.1,0,0,0⟩])) (.tok G1.length 5)) (.is (plRows (E m.2.1).pl) c2) x0 x4 x7 x11 x12 x13 E' hn3 t3 (by rw [t4,heb])
  rw [List.set_set] at hr8
  have t5:=(n5 [.int .i64 (max s.size (E m.2.1).size),.int .i64 (max s.align (E m.2.1).align),.is (plRows (s.pl ++ [⟨i,m.2.1,0,0,0⟩])) (.tok G1.length 5)]).2.2.2.2.1
  have t6:=(n5 [.int .i64 s.size,.int .i64 s.align,.is (plRows (s.pl ++ [⟨i,m.2.1,0,0,0⟩])) (.tok G1.length 5)]).2.2.2.2.1
  unfold envU
  unfold plRow at n1
  dsimp only at n1
  subst heb
  generalize plRows (s.pl ++ [⟨i,m.2.1,0,0,0⟩])=PL at *
  generalize plRows s.pl=PS at *
  generalize plRows (E m.2.1).pl=PE at *
  generalize (E m.2.1).size=sz at *
  generalize (E m.2.1).align=al at *
  obtain ⟨nm,ty,bits⟩:=m
  unfold memRow at *
  dsimp only at *
  have e10:¬ 0<bits:=by omega
  have e11:bits≤0:=by omega
  clear hi hm hs hpl hL hM hc hf hlo hhi hal hsal hssz ll lm hlay hce hput hil htok hnc hnm hnl p1 p2 p6 lf n5 hml
  generalize memRows l=X at *
  repeat (any_goals first|simp -dsimp (maxSteps:=4000000) (maxDischargeDepth:=8) -implicitDefEqProofs [*,-Int.not_le,-Int.not_lt,amLt,maxI1,ap4]|with_reducible (first|apply cB|apply iB)<;>intro _|intro _)
 ·rw [if_neg hb]
  obtain ⟨hw,hw2⟩:=hm.word (by omega)
  rw [← hw] at hal
  by_cases h0:m.2.2=0
  ·rw [if_pos h0]
   refine ⟨G1.set (G.length+1) (.cells eb),cap,by rw [hlen];exact Nat.le_refl _,fun k k1 k2 k3 k4=>by rw [List.getElem?_set_ne (Ne.symm k2)],hLx _,hce,fun k q => .inl q,?_⟩
   unfold envU
   subst heb
   generalize plRows s.pl=PL at *
   generalize plRows (E m.2.1).pl=PE at *
   generalize (E m.2.1).size=sz at *
   generalize (E m.2.1).align=al at *
   obtain ⟨nm,ty,bits⟩:=m
   unfold memRow at *
   dsimp only at *
   subst h0
   clear hi hm hs hpl hL hM hc hf hlo hhi hal hsal hssz ll lm hlay hce hput hil htok hnc hnm hnl lf hml hw hw2
   generalize memRows l=X at *
   repeat (any_goals first|simp -dsimp (maxSteps:=4000000) (maxDischargeDepth:=8) -implicitDefEqProofs [*,-Int.not_le,-Int.not_lt,amLt,maxI1,ap4]|with_reducible (first|apply cB|apply iB)<;>intro _|intro _)
  ·rw [if_neg h0]
   dsimp only
   have hup:=fun h=>up77_ok h m.2.2 8 (by omega) (by omega)
   have gu:=upS_ge (n:=m.2.2) (m:=8) (by omega)
   obtain ⟨v,hv⟩:∃ v,upS m.2.2 8 / 8=v:=⟨_,rfl⟩
   have td:(upS m.2.2 8).tdiv 8=v:=by rw [Int.tdiv_eq_ediv_of_nonneg (by omega)];exact hv
   have wd:IntKind.i64.wrap v=v:=IntWalk.i64_in _ (by omega)
   rw [hv]
   clear hv gu
   generalize upS m.2.2 8=u at *
   obtain ⟨N,n1,n2,n3,n4,n5⟩:=hput ⟨i,m.2.1,0,0,m.2.2⟩
   have step:∀ (Q:Heap),(m.1=[]→Q=N.set L (.cells [.int .i64 (max s.size v),.int .i64 s.align,.is (plRows (s.pl ++ [⟨i,m.2.1,0,0,m.2.2⟩])) (.tok G1.length 5)]))→(m.1≠[]→Q=N.set L (.cells [.int .i64 (max s.size v),.int .i64 (max s.align (E m.2.1).size),.is (plRows (s.pl ++ [⟨i,m.2.1,0,0,m.2.2⟩])) (.tok G1.length 5)])) →
     Brun tab 92 f108l3 (ofL (envU K B L l c0 i)) G=some (.normal,ofL (envU K B L l c0 (i+1)),Q):=by
    intro Q k3 k4
    have t3:=fun cs=>(n5 cs).2.2.1
    have t4:=fun cs=>(n5 cs).2.2.2.1
    have t5:=fun cs=>(n5 cs).2.2.2.2.1
    have tss:∀ b0 b1,(N.set L b0).set L b1=N.set L b1:=fun b0 b1=>List.set_set ..
    unfold envU
    unfold plRow at n1
    dsimp only at n1
    subst heb
    generalize plRows (s.pl ++ [⟨i,m.2.1,0,0,m.2.2⟩])=PL at *
    generalize plRows s.pl=PS at *
    generalize plRows (E m.2.1).pl=PE at *
    generalize (E m.2.1).size=sz at *
    generalize (E m.2.1).align=al at *
    obtain ⟨nm,ty,bits⟩:=m
    unfold memRow at *
    dsimp only at *
    have e9:0<bits:=by omega
    have e10:¬ bits≤0:=by omega
    clear hi hm hs hpl hL hM hc hf hlo hhi hal hsal hssz ll lm hlay hce hput hil htok hnc hnm hnl lf n5 hml hw hw2
    generalize memRows l=X at *
    by_cases cn:nm=[]
    ·replace k3:=k3 cn
     clear k4
     subst cn
     repeat (any_goals first|simp -dsimp (maxSteps:=4000000) (maxDischargeDepth:=8) -implicitDefEqProofs [*,-Int.not_le,-Int.not_lt,amLt,maxI1,ap4]|with_reducible (first|apply cB|apply iB)<;>intro _|intro _)
    ·replace k4:=k4 cn
     clear k3
     repeat (any_goals first|simp -dsimp (maxSteps:=4000000) (maxDischargeDepth:=8) -implicitDefEqProofs [*,-Int.not_le,-Int.not_lt,amLt,maxI1,ap4]|with_reducible (first|apply cB|apply iB)<;>intro _|intro _)
   by_cases cn:m.1=[]
   ·rw [if_neg (fun q=>q cn)]
    obtain ⟨p1,p2,p3,p4,p5,p6⟩:=n5 [.int .i64 (max s.size v),.int .i64 s.align,.is (plRows (s.pl ++ [⟨i,m.2.1,0,0,m.2.2⟩])) (.tok G1.length 5)]
    exact ⟨_,.tok G1.length 5,p1,p2,p3,p6,htok,step _ (fun _=>rfl) (fun q=>absurd cn q)⟩
   ·rw [if_pos cn]
    obtain ⟨p1,p2,p3,p4,p5,p6⟩:=n5 [.int .i64 (max s.size v),.int .i64 (max s.align (E m.2.1).size),.is (plRows (s.pl ++ [⟨i,m.2.1,0,0,m.2.2⟩])) (.tok G1.length 5)]
    exact ⟨_,.tok G1.length 5,p1,p2,p3,p6,htok,step _ (fun q=>absurd q cn) (fun _=>rfl)⟩
end
def Ext2 (K M:Nat) (h h':Heap):Prop:=h.length≤h'.length∧∀ j,j<h.length→j≠K→j≠M→h'[j]?=h[j]?
theorem Ext2.refl (K M:Nat) (h:Heap):Ext2 K M h h:=⟨Nat.le_refl _,fun _ _ _ _=>rfl⟩
theorem Ext2.trans {K M:Nat} {a b c:Heap} (p:Ext2 K M a b) (q:Ext2 K M b c):Ext2 K M a c:=⟨Nat.le_trans p.1 q.1,fun j hj h1 h2=>by rw [q.2 j (Nat.lt_of_lt_of_le hj p.1) h1 h2,p.2 j hj h1 h2]⟩
theorem Ext2.app (K M:Nat) (h x:Heap):Ext2 K M h (h ++ x):=⟨by simp,fun j hj _ _=>by rw [List.getElem?_append_left hj]⟩
def EntsOK (t:List TR) (F:Nat) (es:Ents) (big:Bool):Prop:=∀ e ∈ es,∃ (id:Int) (cap:Cap),e.1 = .int .i64 id∧e.2.1=layV (layF t F id) cap∧(bigF t F id=true→big=true)
structure KInv (t:List TR) (F T R M K KM:Nat) (G:Heap) (es:Ents) (ck:Nat) (big:Bool):Prop where
 tab:TabAt G T R M t.length false t
 k:G[K]?=some (.cells [.mp T 0,.mm KM,.bool big])
 m:G[KM]?=some (.map es ck)
 ents:EntsOK t F es big
 kt:K≠T
 kr:K≠R
 mt:KM≠T
 mr:KM≠R
 km:K≠KM
theorem tab_of {t:List TR} {T R M cap:Nat} {ex:Bool} {G:Heap} (h1:G[T]?=some (.cells [.ms R 0 t.length 6 cap ex,.mm M])) (h2:G[R]?=some (.cells (cellsT t))):TabAt G T R M cap ex t:=⟨fun x=>rapp h1 x,fun x=>rapp h2 x⟩
theorem KInv.keep {t:List TR} {F T R M K KM:Nat} {G G':Heap} {es:Ents} {ck:Nat} {big:Bool} (h:KInv t F T R M K KM G es ck big) (hs:G'[T]?=G[T]?∧G'[R]?=G[R]?∧G'[K]?=G[K]?∧G'[KM]?=G[KM]?):KInv t F T R M K KM G' es ck big :=
 ⟨tab_of (by rw [hs.1];exact h.tab.t0) (by rw [hs.2.1];exact h.tab.r0),by rw [hs.2.2.1];exact h.k,by rw [hs.2.2.2];exact h.m,h.ents,h.kt,h.kr,h.mt,h.mr,h.km⟩
theorem KInv.lt {t:List TR} {F T R M K KM:Nat} {G:Heap} {es:Ents} {ck:Nat} {big:Bool} (h:KInv t F T R M K KM G es ck big):T<G.length∧R<G.length∧K<G.length∧KM<G.length :=
 ⟨(List.getElem?_eq_some_iff.1 h.tab.t0).1,(List.getElem?_eq_some_iff.1 h.tab.r0).1,(List.getElem?_eq_some_iff.1 h.k).1,(List.getElem?_eq_some_iff.1 h.m).1⟩
theorem KInv.app {t:List TR} {F T R M K KM:Nat} {G:Heap} {es:Ents} {ck:Nat} {big:Bool} (h:KInv t F T R M K KM G es ck big) (x:Heap):KInv t F T R M K KM (G ++ x) es ck big:=by
 obtain ⟨l1,l2,l3,l4⟩:=h.lt
 exact h.keep ⟨List.getElem?_append_left l1,List.getElem?_append_left l2,List.getElem?_append_left l3,List.getElem?_append_left l4⟩
def LookP (t:List TR) (F T R M K KM:Nat) (id:Int):Prop:=∀ (G:Heap) (es:Ents) (ck:Nat) (big:Bool),KInv t F T R M K KM G es ck big →
 ∃ (G':Heap) (es':Ents) (ck':Nat) (cap:Cap),KInv t F T R M K KM G' es' ck' (big || bigF t F id)∧Ext2 K KM G G'∧Ccall tab 72 [.mp K 0,.int .i64 id] G=some (layV (layF t F id) cap,G')
def anyBig (t:List TR) (F:Nat) (l:List Mem):Bool:=l.any fun m=>bigF t F m.2.1
section
variable {t:List TR} {F T R M K KM B:Nat} {l:List Mem} {c0:Cap}
structure SInv (t:List TR) (F T R M K KM:Nat) (H0 G:Heap) (L:Nat) (vs:List AV) (pl:List PlT) (cap:Cap) (es:Ents) (ck:Nat) (big:Bool):Prop where
 k:KInv t F T R M K KM G es ck big
 x:Ext2 K KM H0 G
 l:G[L]?=some (.cells (vs ++ [.is (plRows pl) cap]))
 l0:H0.length≤L
 c:CapP G (plRows pl) cap
 c0:∀ k,cap = .tok k 5→H0.length≤k
theorem SInv.step {H0 G G1 G2:Heap} {L:Nat} {vs:List AV} {pl:List PlT} {cap:Cap} {es es1:Ents} {ck ck1:Nat} {big big1:Bool} {x:Heap} (h:SInv t F T R M K KM H0 G L vs pl cap es ck big) (hx:x.length=2) (k1:KInv t F T R M K KM G1 es1 ck1 big1) (e1:Ext2 K KM (G ++ x) G1) (hT:T<H0.length) (hR:R<H0.length) (hK:K<H0.length) (hKM:KM<H0.length)
  {vs2:List AV} {pl2:List PlT} {cap2:Cap} (g1:G1.length≤G2.length) (g2:∀ k,k<G1.length→k≠G.length+1→k≠L→notCap cap k→G2[k]?=G1[k]?) (g3:G2[L]?=some (.cells (vs2 ++ [.is (plRows pl2) cap2]))) (g4:CapP G2 (plRows pl2) cap2) (g5:∀ k,cap2 = .tok k 5→cap = .tok k 5∨G1.length≤k) :
  SInv t F T R M K KM H0 G2 L vs2 pl2 cap2 es1 ck1 big1:=by
 have hl0:=h.l0
 have hlen1:=e1.1
 simp only [List.length_append,hx] at hlen1
 have hlen0:=h.x.1
 have hnc:∀ k,k<H0.length→notCap cap k:=fun k hk s q=>by
  rcases h.c with ⟨q1,_⟩|⟨j,q1,_⟩
  ·rw [q1] at q;cases q
  ·have:=h.c0 j q1
   rw [q1] at q;cases q;omega
 have old:∀ k,k<H0.length→G2[k]?=G1[k]?:=fun k hk=>g2 k (by omega) (by omega) (by omega) (hnc k hk)
 refine ⟨k1.keep ⟨old T hT,old R hR,old K hK,old KM hKM⟩,⟨by omega,fun j hj h1 h2=>?_⟩,g3,hl0,g4,fun k q=>?_⟩
 ·rw [old j hj,e1.2 j (by simp only [List.length_append,hx];omega) h1 h2,List.getElem?_append_left (by omega),h.x.2 j hj h1 h2]
 ·rcases g5 k q with q|q
  ·exact h.c0 k q
  ·omega
theorem struct_loop (hl:l.length≤64) (hm:∀ m ∈ l,MemFit (layF t F) m) (hlk:∀ m ∈ l,LookP t F T R M K KM m.2.1) (H0:Heap) (hT:T<H0.length) (hR:R<H0.length) (hK:K<H0.length) (hKM:KM<H0.length):∀ (r:List Mem) (i:Nat) (s:AtT) (G:Heap) (L:Nat) (cap:Cap) (es:Ents) (ck:Nat) (big:Bool),l.drop i=r→i≤l.length →
  SInv t F T R M K KM H0 G L [.int .i64 0,.int .i64 s.al] s.pl cap es ck big→AtOK (layF t F) l s→s.pos≤i*131200→s.pl.length≤i →
  ∃ G' cap' es' ck',SInv t F T R M K KM H0 G' L [.int .i64 0,.int .i64 (foldS (layF t F) i r s).al] (foldS (layF t F) i r s).pl cap' es' ck' (big || anyBig t F r) ∧
   Brun tab 116 (.loop f107l5) (ofL (envS K B L l c0 s.pos i)) G=some (.exit 0,ofL [(0,.mp K 0),(4,.mp B 0),(5,.mp L 0),(6,.int .i64 (foldS (layF t F) i r s).pos),(7,.fn 127 [] [.mp L 0]),(15,.is (memRows l) c0),(16,.int .i64 l.length),(17,.int .i64 l.length),(18,.bool false)],G')∧G.length≤G'.length∧(B<H0.length→True)∧(foldS (layF t F) i r s).pos≤l.length*131200:=by
 intro r
 induction r with
 | nil =>
  intro i s G L cap es ck big hr hi h hs hps hpl
  have hlen:=congrArg List.length hr
  simp only [List.length_drop,List.length_nil] at hlen
  have e2:(l.length:Int)=i:=by omega
  have hml:=memRows_len l
  refine ⟨G,cap,es,ck,by simpa [anyBig,foldS] using h,?_,Nat.le_refl _,fun _=>trivial,by simp only [foldS];omega⟩
  rw [Brun_loop]
  unfold envS
  simp only [foldS]
  clear hl hm hr hi hlen h hs hps hpl hT hR hK hKM hlk
  repeat (any_goals first|simp -dsimp (maxSteps:=4000000) (maxDischargeDepth:=8) -implicitDefEqProofs [*,-Int.not_le,-Int.not_lt,amLt]|with_reducible (first|apply cB|apply iB)<;>intro _|intro _)
 | cons m r ih =>
  intro i s G L cap es ck big hr hi h hs hps hpl
  have hlen:=congrArg List.length hr
  simp only [List.length_drop,List.length_cons] at hlen
  have hg:l[i]?=some m:=by
   have:=congrArg (·[0]?) hr
   simpa using this
  have htl:l.drop (i+1)=r:=by
   have:=congrArg List.tail hr
   simpa using this
  have hmem:=List.mem_of_getElem? hg
  obtain ⟨G1,es1,ck1,c2,k1,x1,b1⟩:=hlk m hmem (G ++ [.cells (memRow m),.free]) es ck big (h.k.app _)
  have hlen0:=h.x.1
  have hl0:=h.l0
  have ll:=(List.getElem?_eq_some_iff.1 h.l).1
  have lx:(G ++ [Blk.cells (memRow m),.free]).length=G.length+2:=by simp
  have hx1:=x1.1
  have hL1:G1[L]?=some (.cells [.int .i64 0,.int .i64 s.al,.is (plRows s.pl) cap]):=by
   rw [x1.2 L (by omega) (by omega) (by omega),List.getElem?_append_left ll];exact h.l
  have hM1:G1[G.length]?=some (.cells (memRow m)):=by rw [x1.2 _ (by omega) (by omega) (by omega)];simp
  have hF1:G1[G.length+1]?=some .free:=by rw [x1.2 _ (by omega) (by omega) (by omega)];simp
  have hc1:CapP G1 (plRows s.pl) cap:=by
   rcases h.c with q|⟨k,q1,q2⟩
   ·exact .inl q
   ·have:=h.c0 k q1
    have lk:=(List.getElem?_eq_some_iff.1 q2).1
    exact .inr ⟨k,q1,by rw [x1.2 k (by omega) (by omega) (by omega),List.getElem?_append_left lk];exact q2⟩
  obtain ⟨G2,cap2,g1,g2,g3,g4,g5,g6⟩:=struct_step (K:=K) (B:=B) (c0:=c0) (layF t F) s i m G G1 cap c2 hl hg (hm m hmem) hs hps (by omega) b1 hL1 hM1 hF1 ll hc1
  obtain ⟨s1,s2⟩:=step_ok hs hg (hm m hmem)
  have hS:=h.step (x:=[Blk.cells (memRow m),.free]) rfl k1 x1 hT hR hK hKM (vs2:=[.int .i64 0,.int .i64 (stepS (layF t F) s i m).al]) (pl2:=(stepS (layF t F) s i m).pl) g1 g2 g3 g4 g5
  have hpl2:(stepS (layF t F) s i m).pl.length≤i+1:=by
   unfold stepS
   split
   ·simp;omega
   ·split
    ·simp only;omega
    ·simp;omega
  obtain ⟨G',cap',es',ck',i1,i2,i3,i4,i5⟩:=ih (i+1) _ G2 L cap2 es1 ck1 _ htl (by omega) hS s1 (by push_cast;omega) hpl2
  refine ⟨G',cap',es',ck',?_,?_,by omega,i4,i5⟩
  ·have e:anyBig t F (m :: r)=(bigF t F m.2.1 || anyBig t F r):=by simp [anyBig]
   rw [e,← Bool.or_assoc]
   exact i1
  ·push_cast at i2
   rw [Brun_loop,g6,bthen_normal]
   exact i2
theorem union_loop (hl:l.length≤64) (hm:∀ m ∈ l,MemFit (layF t F) m) (hlk:∀ m ∈ l,LookP t F T R M K KM m.2.1) (H0:Heap) (hT:T<H0.length) (hR:R<H0.length) (hK:K<H0.length) (hKM:KM<H0.length):∀ (r:List Mem) (i:Nat) (s:LayT) (G:Heap) (L:Nat) (cap:Cap) (es:Ents) (ck:Nat) (big:Bool),l.drop i=r→i≤l.length →
  SInv t F T R M K KM H0 G L [.int .i64 s.size,.int .i64 s.align] s.pl cap es ck big→UnOK (layF t F) l s→s.pl.length≤i →
  ∃ G' cap' es' ck',SInv t F T R M K KM H0 G' L [.int .i64 (foldU (layF t F) i r s).size,.int .i64 (foldU (layF t F) i r s).align] (foldU (layF t F) i r s).pl cap' es' ck' (big || anyBig t F r) ∧
   Brun tab 92 (.loop f108l3) (ofL (envU K B L l c0 i)) G=some (.exit 0,ofL [(0,.mp K 0),(4,.mp B 0),(5,.mp L 0),(11,.is (memRows l) c0),(12,.int .i64 l.length),(13,.int .i64 l.length),(14,.bool false)],G')∧G.length≤G'.length:=by
 intro r
 induction r with
 | nil =>
  intro i s G L cap es ck big hr hi h hs hpl
  have hlen:=congrArg List.length hr
  simp only [List.length_drop,List.length_nil] at hlen
  have e2:(l.length:Int)=i:=by omega
  have hml:=memRows_len l
  refine ⟨G,cap,es,ck,by simpa [anyBig,foldU] using h,?_,Nat.le_refl _⟩
  rw [Brun_loop]
  unfold envU
  clear hl hm hr hi hlen h hs hpl hT hR hK hKM hlk
  repeat (any_goals first|simp -dsimp (maxSteps:=4000000) (maxDischargeDepth:=8) -implicitDefEqProofs [*,-Int.not_le,-Int.not_lt,amLt]|with_reducible (first|apply cB|apply iB)<;>intro _|intro _)
 | cons m r ih =>
  intro i s G L cap es ck big hr hi h hs hpl
  have hlen:=congrArg List.length hr
  simp only [List.length_drop,List.length_cons] at hlen
  have hg:l[i]?=some m:=by
   have:=congrArg (·[0]?) hr
   simpa using this
  have htl:l.drop (i+1)=r:=by
   have:=congrArg List.tail hr
   simpa using this
  have hmem:=List.mem_of_getElem? hg
  obtain ⟨G1,es1,ck1,c2,k1,x1,b1⟩:=hlk m hmem (G ++ [.cells (memRow m),.free]) es ck big (h.k.app _)
  have hlen0:=h.x.1
  have hl0:=h.l0
  have ll:=(List.getElem?_eq_some_iff.1 h.l).1
  have lx:(G ++ [Blk.cells (memRow m),.free]).length=G.length+2:=by simp
  have hx1:=x1.1
  have hL1:G1[L]?=some (.cells [.int .i64 s.size,.int .i64 s.align,.is (plRows s.pl) cap]):=by
   rw [x1.2 L (by omega) (by omega) (by omega),List.getElem?_append_left ll];exact h.l
  have hM1:G1[G.length]?=some (.cells (memRow m)):=by rw [x1.2 _ (by omega) (by omega) (by omega)];simp
  have hF1:G1[G.length+1]?=some .free:=by rw [x1.2 _ (by omega) (by omega) (by omega)];simp
  have hc1:CapP G1 (plRows s.pl) cap:=by
   rcases h.c with q|⟨k,q1,q2⟩
   ·exact .inl q
   ·have:=h.c0 k q1
    have lk:=(List.getElem?_eq_some_iff.1 q2).1
    exact .inr ⟨k,q1,by rw [x1.2 k (by omega) (by omega) (by omega),List.getElem?_append_left lk];exact q2⟩
  obtain ⟨G2,cap2,g1,g2,g3,g4,g5,g6⟩:=union_step (K:=K) (B:=B) (c0:=c0) (layF t F) s i m G G1 cap c2 hl hg (hm m hmem) hs (by omega) b1 hL1 hM1 hF1 ll hc1
  obtain ⟨s1,s2⟩:=ustep_ok hs hg (hm m hmem)
  have hS:=h.step (x:=[Blk.cells (memRow m),.free]) rfl k1 x1 hT hR hK hKM (vs2:=[.int .i64 (stepU (layF t F) s i m).size,.int .i64 (stepU (layF t F) s i m).align]) (pl2:=(stepU (layF t F) s i m).pl) g1 g2 g3 g4 g5
  have hpl2:(stepU (layF t F) s i m).pl.length≤i+1:=by
   unfold stepU
   split
   ·simp;omega
   ·split
    ·omega
    ·simp;omega
  obtain ⟨G',cap',es',ck',i1,i2,i3⟩:=ih (i+1) _ G2 L cap2 es1 ck1 _ htl (by omega) hS s1 hpl2
  refine ⟨G',cap',es',ck',?_,?_,by omega⟩
  ·have e:anyBig t F (m :: r)=(bigF t F m.2.1 || anyBig t F r):=by simp [anyBig]
   rw [e,← Bool.or_assoc]
   exact i1
  ·push_cast at i2
   rw [Brun_loop,g6,bthen_normal]
   exact i2
end
theorem eqc_int1 (a b:Int):eqCells [.int .i64] [.int .i64 a] [.int .i64 b]=some (a == b):=by simp [eqCells]
theorem keyC_int (a:Int):keyCells false (.int .i64 a)=some [.int .i64 a]:=rfl
theorem keyO_int1 (a:Int):keyOK [.int .i64] [.int .i64 a]=true:=by simp [keyOK,eqCells]
theorem ents_find {t:List TR} {F:Nat} {big:Bool} (id:Int):∀ (es:Ents) (j:Nat),EntsOK t F es big→findA false [.int .i64] [.int .i64 id] es j=some none∨∃ i cap,findA false [.int .i64] [.int .i64 id] es j=some (some (i,layV (layF t F id) cap))∧(bigF t F id=true→big=true):=by
 intro es
 induction es with
 | nil=>intro j _;exact .inl rfl
 | cons e r ih =>
  intro j h
  obtain ⟨id',cap,q1,q2,q3⟩:=h e (by simp)
  obtain ⟨k,v,c⟩:=e
  dsimp only at q1 q2
  subst q1 q2
  simp only [findA,keyC_int,eqc_int1]
  by_cases c:id=id'
  ·subst c
   rw [show (id == id)=true by simp]
   exact .inr ⟨j,cap,rfl,q3⟩
  ·rw [show (id == id')=false by simpa using c]
   exact ih (j+1) fun x hx=>h x (by simp [hx])
theorem ents_mono {t:List TR} {F:Nat} {es:Ents} {big big':Bool} (h:EntsOK t F es big) (hb:big=true→big'=true):EntsOK t F es big':=fun e he=>by
 obtain ⟨id,cap,q1,q2,q3⟩:=h e he
 exact ⟨id,cap,q1,q2,fun q=>hb (q3 q)⟩
theorem ents_add {t:List TR} {F:Nat} {es:Ents} {big:Bool} (h:EntsOK t F es big) (id:Int) (cap:Cap) (ck:Nat) (hb:bigF t F id=true→big=true):EntsOK t F (es ++ [(.int .i64 id,layV (layF t F id) cap,ck)]) big:=fun e he=>by
 rcases List.mem_append.1 he with he|he
 ·exact h e he
 ·rw [List.mem_singleton.1 he];exact ⟨id,cap,rfl,rfl,hb⟩
theorem ents_mod {t:List TR} {F:Nat} {es:Ents} {big:Bool} (h:EntsOK t F es big) (id:Int) (cap:Cap) (i:Nat) (hb:bigF t F id=true→big=true):EntsOK t F (es.modify i fun q=>(.int .i64 id,layV (layF t F id) cap,q.2.2)) big:=fun e he=>by
 obtain ⟨j,hj⟩:=List.mem_iff_getElem?.1 he
 rw [List.getElem?_modify] at hj
 cases hq:es[j]? with
 | none=>rw [hq] at hj;cases hj
 | some q =>
 rw [hq] at hj
 simp only [Option.map_eq_map,Option.map_some,Option.some.injEq] at hj
 subst hj
 split
 ·exact ⟨id,cap,rfl,rfl,hb⟩
 ·exact h _ (List.mem_of_getElem? hq)
def f39t:ACode:= .seq (.seq (.region false f72r16 [0,1,4,9,66] 0) (.cond (.t 66) (.seq (.region false f72r17 [0,1,4,9] 0) (.region false f72r18 [0,1,4,9] 0)) (.skip))) (.seq (.region true f72r19 [4,9] 0) (.seq (.region false f72r20 [4] 0) (.ret)))
section
variable {t:List TR} {F T R M K KM:Nat}
theorem look_tail {Q:Heap} {es:Ents} {ck:Nat} {big b0:Bool} (h:KInv t F T R M K KM Q es ck big) {id:Int} {raw:LayT} {cap:Cap} {B4 B9:Nat} {a b c:AV} (h4:Q[B4]?=some (.cells [a,b,c])) (h9:Q[B9]?=some (.cells [.int .i64 raw.size,.int .i64 raw.align,.is (plRows raw.pl) cap]))
  (h49:B4≠B9) (n4:B4≠K∧B4≠KM∧B4≠T∧B4≠R) (n9:B9≠K∧B9≠KM∧B9≠T∧B9≠R) (hlay:layF t F id=capL raw) (hbig:bigF t F id=(decide (16384<raw.size) || b0)) (hb0:b0=true→big=true) :
  ∃ Q' es' ck',KInv t F T R M K KM Q' es' ck' (big || bigF t F id)∧Q'.length=Q.length∧(∀ j,j≠K→j≠KM→j≠B4→j≠B9→Q'[j]?=Q[j]?)∧Q'[B4]?=some (.cells [.int .i64 (layF t F id).size,.int .i64 (layF t F id).align,.is (plRows (layF t F id).pl) cap]) ∧
   Brun tab 78 f39t (ofL [(0,.mp K 0),(1,.int .i64 id),(4,.mp B4 0),(9,.mp B9 0)]) Q=some (.ret,ofL [(4,.mp B4 0)],Q'):=by
 have hk:=h.k
 have hm:=h.m
 have l4:=(List.getElem?_eq_some_iff.1 h4).1
 have l9:=(List.getElem?_eq_some_iff.1 h9).1
 have lk:=(List.getElem?_eq_some_iff.1 hk).1
 have lm:=(List.getElem?_eq_some_iff.1 hm).1
 obtain ⟨a1,a2,a3,a4⟩:=n4
 obtain ⟨b1,b2,b3,b4⟩:=n9
 have hkm:=h.km
 have hkt:=h.kt
 have hkr:=h.kr
 have hmt:=h.mt
 have hmr:=h.mr
 by_cases hlg:16384<raw.size
 ·-- too large
  have hl2:layF t F id=⟨16385,raw.align,raw.pl⟩:=by rw [hlay];unfold capL;rw [if_pos hlg]
  have hb2:bigF t F id=true:=by rw [hbig];simp [hlg]
  have hents:EntsOK t F es true:=ents_mono h.ents fun _=>rfl
  have g1:∀ x,(Q.set K x)[B9]?=some (.cells [.int .i64 raw.size,.int .i64 raw.align,.is (plRows raw.pl) cap]):=fun x=>by rw [List.getElem?_set_ne (Ne.symm b1)];exact h9
  have g2:∀ x y,((Q.set K x).set B9 y)[KM]?=some (.map es ck):=fun x y=>by rw [List.getElem?_set_ne b2,List.getElem?_set_ne hkm];exact hm
  have g3:∀ x y,((Q.set K x).set B9 y)[B9]?=some y:=fun x y=>by rw [List.getElem?_set,if_pos rfl,if_pos (by simpa using l9)]
  have g3':∀ x y,((Q.set K x).set B9 y)[K]?=some x:=fun x y=>by rw [List.getElem?_set_ne b1,List.getElem?_set,if_pos rfl,if_pos lk]
  have g4:∀ x y z,(((Q.set K x).set B9 y).set KM z)[B9]?=some y:=fun x y z=>by rw [List.getElem?_set_ne (Ne.symm b2)];exact g3 x y
  have g5:∀ x y z,(((Q.set K x).set B9 y).set KM z)[B4]?=some (.cells [a,b,c]):=fun x y z=>by rw [List.getElem?_set_ne (Ne.symm a2),List.getElem?_set_ne (Ne.symm h49),List.getElem?_set_ne (Ne.symm a1)];exact h4
  have fin:∀ es' ck',EntsOK t F es' true→KInv t F T R M K KM ((((Q.set K (.cells [.mp T 0,.mm KM,.bool true])).set B9 (.cells [.int .i64 16385,.int .i64 raw.align,.is (plRows raw.pl) cap])).set KM (.map es' ck')).set B4 (.cells [.int .i64 16385,.int .i64 raw.align,.is (plRows raw.pl) cap])) es' ck' true:=fun es' ck' he=>by
   refine ⟨tab_of ?_ ?_,?_,?_,he,hkt,hkr,hmt,hmr,hkm⟩
   ·rw [List.getElem?_set_ne a3,List.getElem?_set_ne hmt,List.getElem?_set_ne b3,List.getElem?_set_ne hkt];exact h.tab.t0
   ·rw [List.getElem?_set_ne a4,List.getElem?_set_ne hmr,List.getElem?_set_ne b4,List.getElem?_set_ne hkr];exact h.tab.r0
   ·rw [List.getElem?_set_ne a1,List.getElem?_set_ne (Ne.symm hkm),List.getElem?_set_ne b1,List.getElem?_set,if_pos rfl,if_pos lk]
   ·rw [List.getElem?_set_ne a2,List.getElem?_set,if_pos rfl,if_pos (by simpa using lm)]
  have fr:∀ m',∀ j,j≠K→j≠KM→j≠B4→j≠B9→((((Q.set K (.cells [.mp T 0,.mm KM,.bool true])).set B9 (.cells [.int .i64 16385,.int .i64 raw.align,.is (plRows raw.pl) cap])).set KM m').set B4 (.cells [.int .i64 16385,.int .i64 raw.align,.is (plRows raw.pl) cap]))[j]?=Q[j]?:=fun m' j j1 j2 j3 j4=>by
   rw [List.getElem?_set_ne (Ne.symm j3),List.getElem?_set_ne (Ne.symm j2),List.getElem?_set_ne (Ne.symm j4),List.getElem?_set_ne (Ne.symm j1)]
  have r4:∀ m' y,((((Q.set K (.cells [.mp T 0,.mm KM,.bool true])).set B9 (.cells [.int .i64 16385,.int .i64 raw.align,.is (plRows raw.pl) cap])).set KM m').set B4 y)[B4]?=some y:=fun m' y=>by rw [List.getElem?_set,if_pos rfl,if_pos (by simpa using l4)]
  have hadd:=ents_add hents id cap ck fun _=>rfl
  have hmod:=fun i=>ents_mod hents id cap i fun _=>rfl
  rw [hb2,Bool.or_true]
  rw [hl2] at hadd hmod ⊢
  dsimp only at hadd hmod ⊢
  rcases ents_find id es 0 h.ents with hf|⟨i,cap',hf,_⟩
  ·refine ⟨_,_,_,fin _ (ck+1) hadd,by simp,fr _,r4 _ _,?_⟩
   unfold f39t
   unfold layV
   try dsimp only
   clear l4 l9 lk lm hadd hmod fin fr r4 hents h hlay hbig hl2 hb2
   generalize plRows raw.pl=PL at *
   repeat (any_goals first|simp -dsimp (maxSteps:=4000000) (maxDischargeDepth:=8) -implicitDefEqProofs [*,-Int.not_le,-Int.not_lt,amLt,keyC_int,keyO_int1,mapF_map]|with_reducible (first|apply cB|apply iB)<;>intro _|intro _)
  ·refine ⟨_,_,_,fin _ ck (hmod i),by simp,fr _,r4 _ _,?_⟩
   unfold f39t
   unfold layV
   try dsimp only
   clear l4 l9 lk lm hadd hmod fin fr r4 hents h hlay hbig hl2 hb2
   generalize plRows raw.pl=PL at *
   repeat (any_goals first|simp -dsimp (maxSteps:=4000000) (maxDischargeDepth:=8) -implicitDefEqProofs [*,-Int.not_le,-Int.not_lt,amLt,keyC_int,keyO_int1,mapF_map]|with_reducible (first|apply cB|apply iB)<;>intro _|intro _)
 ·have hl2:layF t F id=raw:=by rw [hlay];unfold capL;rw [if_neg hlg]
  have hb2:bigF t F id=true→big=true:=fun q=>by rw [hbig] at q;simp [hlg] at q;exact hb0 q
  have g2:∀ z,(Q.set KM z)[B9]?=some (.cells [.int .i64 raw.size,.int .i64 raw.align,.is (plRows raw.pl) cap]):=fun z=>by rw [List.getElem?_set_ne (Ne.symm b2)];exact h9
  have g3:∀ z,(Q.set KM z)[B4]?=some (.cells [a,b,c]):=fun z=>by rw [List.getElem?_set_ne (Ne.symm a2)];exact h4
  have fin:∀ es' ck',EntsOK t F es' big→KInv t F T R M K KM ((Q.set KM (.map es' ck')).set B4 (.cells [.int .i64 raw.size,.int .i64 raw.align,.is (plRows raw.pl) cap])) es' ck' big:=fun es' ck' he=>by
   refine ⟨tab_of ?_ ?_,?_,?_,he,hkt,hkr,hmt,hmr,hkm⟩
   ·rw [List.getElem?_set_ne a3,List.getElem?_set_ne hmt];exact h.tab.t0
   ·rw [List.getElem?_set_ne a4,List.getElem?_set_ne hmr];exact h.tab.r0
   ·rw [List.getElem?_set_ne a1,List.getElem?_set_ne (Ne.symm hkm)];exact hk
   ·rw [List.getElem?_set_ne a2,List.getElem?_set,if_pos rfl,if_pos lm]
  have fr:∀ m',∀ j,j≠K→j≠KM→j≠B4→j≠B9→((Q.set KM m').set B4 (.cells [.int .i64 raw.size,.int .i64 raw.align,.is (plRows raw.pl) cap]))[j]?=Q[j]?:=fun m' j j1 j2 j3 j4=>by
   rw [List.getElem?_set_ne (Ne.symm j3),List.getElem?_set_ne (Ne.symm j2)]
  have r4:∀ m' y,((Q.set KM m').set B4 y)[B4]?=some y:=fun m' y=>by rw [List.getElem?_set,if_pos rfl,if_pos (by simpa using l4)]
  have hadd:=ents_add h.ents id cap ck hb2
  have hmod:=fun i=>ents_mod h.ents id cap i hb2
  have hor:(big || bigF t F id)=big:=by
   cases hq:bigF t F id with
   | false=>simp
   | true=>rw [hb2 hq];rfl
  rw [hor]
  rw [hl2] at hadd hmod ⊢
  rcases ents_find id es 0 h.ents with hf|⟨i,cap',hf,_⟩
  ·refine ⟨_,_,_,fin _ (ck+1) hadd,by simp,fr _,r4 _ _,?_⟩
   unfold f39t
   unfold layV
   try dsimp only
   clear l4 l9 lk lm hadd hmod fin fr r4 h hlay hbig hl2 hb2
   generalize plRows raw.pl=PL at *
   repeat (any_goals first|simp -dsimp (maxSteps:=4000000) (maxDischargeDepth:=8) -implicitDefEqProofs [*,-Int.not_le,-Int.not_lt,amLt,keyC_int,keyO_int1,mapF_map]|with_reducible (first|apply cB|apply iB)<;>intro _|intro _)
  ·refine ⟨_,_,_,fin _ ck (hmod i),by simp,fr _,r4 _ _,?_⟩
   unfold f39t
   unfold layV
   try dsimp only
   clear l4 l9 lk lm hadd hmod fin fr r4 h hlay hbig hl2 hb2
   generalize plRows raw.pl=PL at *
   repeat (any_goals first|simp -dsimp (maxSteps:=4000000) (maxDischargeDepth:=8) -implicitDefEqProofs [*,-Int.not_le,-Int.not_lt,amLt,keyC_int,keyO_int1,mapF_map]|with_reducible (first|apply cB|apply iB)<;>intro _|intro _)
end
section
variable {t:List TR} {F T R M K KM:Nat}
theorem struct_fn {r:TR} (hl:r.mem.length≤64) (hm:∀ m ∈ r.mem,MemFit (layF t F) m) (hlk:∀ m ∈ r.mem,LookP t F T R M K KM m.2.1) (G:Heap) (es:Ents) (ck:Nat) (big:Bool) (h:KInv t F T R M K KM G es ck big) :
  ∃ G' es' ck' cap,KInv t F T R M K KM G' es' ck' (big || anyBig t F r.mem)∧Ext2 K KM G G'∧Ccall tab 107 [.mp K 0,.agg (trow r)] G=some (layV (structL (layF t F) r.mem) cap,G'):=by
 obtain ⟨l1,l2,l3,l4⟩:=h.lt
 obtain ⟨Bc,hBc⟩:∃ Bc:Blk,Bc = .cells [.int .i64 0,.int .i64 0,.is [] .nil]:=⟨_,rfl⟩
 have hH:(G ++ [Bc]).length=G.length+1:=by simp
 have h0:SInv t F T R M K KM (G ++ [Bc]) (G ++ [Bc] ++ [.cells [.int .i64 0,.int .i64 1,.is [] .nil]]) (G.length+1) [.int .i64 0,.int .i64 1] [] .nil es ck big :=
  ⟨(h.app _).app _,Ext2.app _ _ _ _,by rw [List.getElem?_append_right (by omega),hH,Nat.sub_self];rfl,by omega,.inl ⟨rfl,rfl⟩,fun k q=>by cases q⟩
 obtain ⟨G',cap',es',ck',hS,hb,hlen,_,hpos⟩:=struct_loop (B:=G.length) (c0:= .no) hl hm hlk (G ++ [Bc]) (by omega) (by omega) (by omega) (by omega) r.mem 0 ⟨0,1,[]⟩ _ (G.length+1) .nil es ck big rfl (by omega) h0 (at0 _ _) (by simp) (by simp)
 have hat:=fold_ok hm r.mem 0 ⟨0,1,[]⟩ rfl (at0 _ _)
 unfold structL
 generalize foldS (layF t F) 0 r.mem ⟨0,1,[]⟩=s at *
 have hsp:=hat.pos
 have hsal:=hat.al
 simp only [List.append_assoc,List.cons_append,List.nil_append,List.length_append,List.length_cons,List.length_nil] at hlen hb
 simp only [Int.natCast_zero] at hb
 have hB:G'[G.length]?=some Bc:=by rw [hS.x.2 G.length (by omega) (by omega) (by omega)];simp
 have hL:=hS.l
 simp only [List.cons_append,List.nil_append] at hL
 have nBL:¬ G.length+1=G.length:=by omega
 have ll:=(List.getElem?_eq_some_iff.1 hL).1
 have lb:=(List.getElem?_eq_some_iff.1 hB).1
 have g1:∀ x,(G'.set (G.length+1) x)[G.length+1]?=some x:=fun x=>by rw [List.getElem?_set,if_pos rfl,if_pos ll]
 have g2:∀ x,(G'.set (G.length+1) x)[G.length]?=some Bc:=fun x=>by rw [List.getElem?_set_ne nBL];exact hB
 have g3:∀ x y,((G'.set (G.length+1) x).set G.length y)[G.length]?=some y:=fun x y=>by rw [List.getElem?_set,if_pos rfl,if_pos (by simpa using lb)]
 have u1:=upS_ge (n:=s.pos) (m:=8) (by omega)
 have hup1:=fun h=>up77_ok h s.pos 8 (by omega) (by omega)
 have td:(upS s.pos 8).tdiv 8=upS s.pos 8 / 8:=Int.tdiv_eq_ediv_of_nonneg (by omega)
 have wd:IntKind.i64.wrap (upS s.pos 8 / 8)=upS s.pos 8 / 8:=IntWalk.i64_in _ (by omega)
 have hup2:=fun h=>up77_ok h (max 1 (upS s.pos 8 / 8)) s.al (by omega) (by omega)
 refine ⟨(G'.set (G.length+1) (.cells [.int .i64 (upS (max 1 (upS s.pos 8 / 8)) s.al),.int .i64 s.al,.is (plRows s.pl) cap'])).set G.length (.cells [.int .i64 (upS (max 1 (upS s.pos 8 / 8)) s.al),.int .i64 s.al,.is (plRows s.pl) cap']),es',ck',cap',?_,?_,?_⟩
 ·refine hS.k.keep ⟨?_,?_,?_,?_⟩
  ·rw [List.getElem?_set_ne (by omega),List.getElem?_set_ne (by omega)]
  ·rw [List.getElem?_set_ne (by omega),List.getElem?_set_ne (by omega)]
  ·rw [List.getElem?_set_ne (by omega),List.getElem?_set_ne (by omega)]
  ·rw [List.getElem?_set_ne (by omega),List.getElem?_set_ne (by omega)]
 ·refine ⟨by simp only [List.length_set];omega,fun j hj h1 h2=>?_⟩
  rw [List.getElem?_set_ne (by omega),List.getElem?_set_ne (by omega),hS.x.2 j (by omega) h1 h2,List.getElem?_append_left hj]
 ·unfold layV
  dsimp only
  have hml:=memRows_len r.mem
  refine Ccall_over rfl rfl rfl rfl ?_
  unfold trow
  subst hBc
  unfold envS at hb
  generalize upS (max 1 (upS s.pos 8 / 8)) s.al=fz at *
  generalize upS s.pos 8 / 8=d at *
  generalize upS s.pos 8=u at *
  generalize plRows s.pl=PL at *
  clear hl hm hlk h h0 hS hlen hpos hat hsp hsal ll lb l1 l2 l3 l4 u1 hH
  repeat (any_goals first|simp -dsimp (maxSteps:=4000000) (maxDischargeDepth:=8) -implicitDefEqProofs [*,-Int.not_le,-Int.not_lt,amLt,maxI1,ap4]|with_reducible (first|apply cB|apply iB)<;>intro _|intro _)
theorem union_fn {r:TR} (hl:r.mem.length≤64) (hm:∀ m ∈ r.mem,MemFit (layF t F) m) (hlk:∀ m ∈ r.mem,LookP t F T R M K KM m.2.1) (G:Heap) (es:Ents) (ck:Nat) (big:Bool) (h:KInv t F T R M K KM G es ck big) :
  ∃ G' es' ck' cap,KInv t F T R M K KM G' es' ck' (big || anyBig t F r.mem)∧Ext2 K KM G G'∧Ccall tab 108 [.mp K 0,.agg (trow r)] G=some (layV (unionL (layF t F) r.mem) cap,G'):=by
 obtain ⟨l1,l2,l3,l4⟩:=h.lt
 obtain ⟨Bc,hBc⟩:∃ Bc:Blk,Bc = .cells [.int .i64 0,.int .i64 0,.is [] .nil]:=⟨_,rfl⟩
 have hH:(G ++ [Bc]).length=G.length+1:=by simp
 have h0:SInv t F T R M K KM (G ++ [Bc]) (G ++ [Bc] ++ [.cells [.int .i64 1,.int .i64 1,.is [] .nil]]) (G.length+1) [.int .i64 1,.int .i64 1] [] .nil es ck big :=
  ⟨(h.app _).app _,Ext2.app _ _ _ _,by rw [List.getElem?_append_right (by omega),hH,Nat.sub_self];rfl,by omega,.inl ⟨rfl,rfl⟩,fun k q=>by cases q⟩
 have hu0:UnOK (layF t F) r.mem ⟨1,1,[]⟩:=⟨by simp,.inl rfl,fun p hp=>by cases hp⟩
 obtain ⟨G',cap',es',ck',hS,hb,hlen⟩:=union_loop (B:=G.length) (c0:= .no) hl hm hlk (G ++ [Bc]) (by omega) (by omega) (by omega) (by omega) r.mem 0 ⟨1,1,[]⟩ _ (G.length+1) .nil es ck big rfl (by omega) h0 hu0 (by simp)
 obtain ⟨hat,hsz⟩:=ufold_ok hm r.mem 0 ⟨1,1,[]⟩ rfl hu0
 unfold unionL
 generalize foldU (layF t F) 0 r.mem ⟨1,1,[]⟩=s at *
 have hsp:=hat.sz
 have hsal:=hat.al
 dsimp only at hsz
 simp only [List.append_assoc,List.cons_append,List.nil_append,List.length_append,List.length_cons,List.length_nil] at hlen hb
 simp only [Int.natCast_zero] at hb
 have hB:G'[G.length]?=some Bc:=by rw [hS.x.2 G.length (by omega) (by omega) (by omega)];simp
 have hL:=hS.l
 simp only [List.cons_append,List.nil_append] at hL
 have nBL:¬ G.length+1=G.length:=by omega
 have ll:=(List.getElem?_eq_some_iff.1 hL).1
 have lb:=(List.getElem?_eq_some_iff.1 hB).1
 have g1:∀ x,(G'.set (G.length+1) x)[G.length+1]?=some x:=fun x=>by rw [List.getElem?_set,if_pos rfl,if_pos ll]
 have g2:∀ x,(G'.set (G.length+1) x)[G.length]?=some Bc:=fun x=>by rw [List.getElem?_set_ne nBL];exact hB
 have g3:∀ x y,((G'.set (G.length+1) x).set G.length y)[G.length]?=some y:=fun x y=>by rw [List.getElem?_set,if_pos rfl,if_pos (by simpa using lb)]
 have hup2:=fun h=>up77_ok h s.size s.align (by omega) (by omega)
 refine ⟨(G'.set (G.length+1) (.cells [.int .i64 (upS s.size s.align),.int .i64 s.align,.is (plRows s.pl) cap'])).set G.length (.cells [.int .i64 (upS s.size s.align),.int .i64 s.align,.is (plRows s.pl) cap']),es',ck',cap',?_,?_,?_⟩
 ·refine hS.k.keep ⟨?_,?_,?_,?_⟩
  ·rw [List.getElem?_set_ne (by omega),List.getElem?_set_ne (by omega)]
  ·rw [List.getElem?_set_ne (by omega),List.getElem?_set_ne (by omega)]
  ·rw [List.getElem?_set_ne (by omega),List.getElem?_set_ne (by omega)]
  ·rw [List.getElem?_set_ne (by omega),List.getElem?_set_ne (by omega)]
 ·refine ⟨by simp only [List.length_set];omega,fun j hj h1 h2=>?_⟩
  rw [List.getElem?_set_ne (by omega),List.getElem?_set_ne (by omega),hS.x.2 j (by omega) h1 h2,List.getElem?_append_left hj]
 ·unfold layV
  dsimp only
  have hml:=memRows_len r.mem
  refine Ccall_over rfl rfl rfl rfl ?_
  unfold trow
  subst hBc
  unfold envU at hb
  generalize upS s.size s.align=fz at *
  generalize plRows s.pl=PL at *
  clear hl hm hlk h h0 hS hlen hat hsp hsal hsz ll lb l1 l2 l3 l4 hH hu0
  repeat (any_goals first|simp -dsimp (maxSteps:=4000000) (maxDischargeDepth:=8) -implicitDefEqProofs [*,-Int.not_le,-Int.not_lt,amLt,maxI1,ap4]|with_reducible (first|apply cB|apply iB)<;>intro _|intro _)
end
def f39h (tl:ACode):ACode:= .seq (.region false f72r0 [0,1,4] 1) (.seq (.seq (.region false f72r1 [0,1,4,5,6] 1) (.seq (.region false f72r2 [0,1,4,5,21] 0) (.cond (.t 21) (.seq (.region false f72r3 [4] 0) (.ret)) (.skip)))) (.seq (.region false f72r4 [0,1,4,7] 1) (.seq (.region false f72r5 [0,1,4,7,9] 1) (.seq (.seq (.region false f72r6 [0,1,4,7,9,33] 0) (.block 0 (.seq (.region false f72r7 [0,1,4,7,9,33,40] 0) (.cond (.t 40) (.seq (.region false f72r8 [0,1,4,7,9,10] 1) (.region false f72r9 [0,1,4,9] 0)) (.seq (.region false f72r10 [0,1,4,7,9,33,54] 0) (.cond (.t 54) (.region false f72r11 [0,1,4,9] 0) (.seq (.region false f72r12 [0,1,4,7,9,59] 0) (.cond (.t 59) (.region false f72r13 [0,1,4,9] 0) (.seq (.region false f72r14 [0,1,4,9,11] 0) (.region false f72r15 [0,1,4,9] 0)))))))))) tl))))
theorem f39_split:f72c=f39h f39t:=rfl
section
variable {t:List TR} {F T R M K KM:Nat}
theorem mem_ok {ha:AccP t} {r:TR} (hm:r ∈ t) (hd:r.done=true):r.mem.length≤64∧∀ m ∈ r.mem,wholeS t m.2.1=true:=by
 have hme:=ha.mems r hm hd
 unfold membersE at hme
 split at hme
 ·cases hme
 ·refine ⟨by omega,fun m hm=>?_⟩
  obtain ⟨s,hs⟩:=memsE_all hme m hm
  exact (memE_p hs).whole
theorem deps_big {r:TR} (h:r.kind=15∨r.kind=16):(deps r).any (bigF t F)=anyBig t F r.mem:=by
 unfold deps anyBig
 rw [if_neg (by omega),List.nil_append,List.any_map]
 rfl
theorem deps_none {r:TR} (h:¬ (r.kind=15∨r.kind=16)) (h14:r.kind≠14) (hm:r.mem=[]):(deps r).any (bigF t F)=false:=by
 unfold deps
 rw [if_neg h14,hm]
 rfl
theorem look_all {rho:Nat→Nat} (ha:AccP t) (hr:Ranked t rho) (hF:∀ i,i<t.length→rho i<F) (hsz:∀ w ∈ t,w.mem.length≤16777216):∀ (n:Nat) (id:Int),rho id.toNat<n→wholeS t id=true→LookP t F T R M K KM id:=by
 intro n
 induction n with
 | zero=>intro id h;omega
 | succ n ih =>
  intro id hn hw G es ck big h
  obtain ⟨l1,l2,l3,l4⟩:=h.lt
  have hk:=fun x=>(h.app x).k
  have hm:=fun x=>(h.app x).m
  rcases ents_find id es 0 h.ents with hf|⟨i,cap,hf,hb⟩
  ·-- not known yet
   unfold wholeS at hw
   cases hg:getT t id with
   | none=>rw [hg] at hw;cases hw
   | some r =>
    rw [hg] at hw
    dsimp only at hw
    obtain ⟨h0,hi⟩:=getT_some hg
    have hmem:r ∈ t:=List.mem_of_getElem? hi
    obtain ⟨k1,k16,klen,kdone,kmem⟩:=acc_kind ha hi
    obtain ⟨eL,eB⟩:=lay_eq hr hF hg
    have hdep:=hr _ _ hi
    have hrow:=fun x=>trow_ok (h.app x).tab hg (hsz r hmem)
    obtain ⟨z3,hz3⟩:∃ z3:Blk,z3 = .cells [.int .i64 0,.int .i64 0,.is [] .nil]:=⟨_,rfl⟩
    obtain ⟨rw_,hrw⟩:∃ rw_:Blk,rw_ = .cells (trow (eraseT r)):=⟨_,rfl⟩
    have hH:(G ++ [z3,z3,rw_,rw_,z3]).length=G.length+5:=by simp
    have hK1:=h.app [z3,z3,rw_,rw_,z3]
    have H4:(G ++ [z3,z3,rw_,rw_,z3])[G.length]?=some z3:=by rw [List.getElem?_append_right (Nat.le_refl _),Nat.sub_self];rfl
    have H7:(G ++ [z3,z3,rw_,rw_,z3])[G.length+2]?=some rw_:=by rw [List.getElem?_append_right (by omega),show G.length+2 - G.length=2 by omega];rfl
    have H9:(G ++ [z3,z3,rw_,rw_,z3])[G.length+4]?=some z3:=by rw [List.getElem?_append_right (by omega),show G.length+4 - G.length=4 by omega];rfl
    have done:∀ (Q:Heap) (es':Ents) (ck':Nat) (raw:LayT) (cap:Cap) (b0:Bool),KInv t F T R M K KM Q es' ck' (big || b0)→(G.length+5≤Q.length∧∀ j,j<G.length→j≠K→j≠KM→Q[j]?=G[j]?)→Q[G.length]?=some z3→Q[G.length+4]?=some (.cells [.int .i64 raw.size,.int .i64 raw.align,.is (plRows raw.pl) cap]) →
      rawL (layF t F) r=raw→(deps r).any (bigF t F)=b0→(∀ tl,Brun tab 78 (f39h tl) (ofL [(0,.mp K 0),(1,.int .i64 id)]) G=Brun tab 78 tl (ofL [(0,.mp K 0),(1,.int .i64 id),(4,.mp G.length 0),(9,.mp (G.length+4) 0)]) Q) →
      ∃ (G':Heap) (es':Ents) (ck':Nat) (cap:Cap),KInv t F T R M K KM G' es' ck' (big || bigF t F id)∧Ext2 K KM G G'∧Ccall tab 72 [.mp K 0,.int .i64 id] G=some (layV (layF t F id) cap,G'):=by
     intro Q es' ck' raw cap b0 q1 q2 q3 q4 q5 q6 q7
     rw [hz3] at q3
     have e1:layF t F id=capL raw:=by rw [eL,q5]
     have e2:bigF t F id=(decide (16384<raw.size) || b0):=by rw [eB,q5,q6]
     obtain ⟨Q',es2,ck2,t1,t2,t3,t4,t5⟩:=look_tail q1 q3 q4 (by omega) ⟨by omega,by omega,by omega,by omega⟩ ⟨by omega,by omega,by omega,by omega⟩ e1 e2 (fun q=>by rw [q];simp)
     refine ⟨Q',es2,ck2,cap,?_,⟨by omega,fun j hj j1 j2=>by rw [t3 j j1 j2 (by omega) (by omega),q2.2 j hj j1 j2]⟩,?_⟩
     ·have:(big || b0 || bigF t F id)=(big || bigF t F id):=by
       rw [e2]
       cases big<;>cases b0<;>simp
      rw [← this];exact t1
     ·refine Ccall_over rfl rfl rfl rfl ?_
      rw [f39_split]
      have q8:=q7 f39t
      simp only [List.zipIdx_cons,List.zipIdx_nil,List.map_cons,List.map_nil,Nat.zero_add] at *
      rw [q8,t5]
      unfold layV
      simp [banswer_ret,aresults,ares,ofL_cons,t4,cget_agg]
    by_cases k14:r.kind=14
    ·-- an array
     have hel:=ha.whole r hmem k14
     have hdl:=hdep r.elem (by unfold deps;rw [if_pos k14];simp)
     obtain ⟨G1,es1,ck1,c1,a1,a2,a3⟩:=ih r.elem (by omega) hel (G ++ [z3,z3,rw_,rw_,z3,.free]) es ck big (h.app _)
     have hfe:=whole_lay ha hr hF hel
     have x0:=hfe.lo
     have x1:=hfe.hi
     have hlen14:=klen k14
     unfold longS at hlen14
     simp only [decide_eq_true_eq] at hlen14
     have hlw:1≤r.len∧r.len≤16384:=by
      unfold wholeR at hw
      rw [if_neg (by omega),if_pos k14] at hw
      simp only [decide_eq_true_eq] at hw
      omega
     have hwr:IntKind.i64.wrap (r.len*(layF t F r.elem).size)=r.len*(layF t F r.elem).size:=IntWalk.i64_in _ (by
      have y1:r.len*(layF t F r.elem).size≤16384*16385:=Int.mul_le_mul hlw.2 x1 (by omega) (by omega)
      have y2:0≤r.len*(layF t F r.elem).size:=Int.mul_nonneg (by omega) (by omega)
      omega)
     have hd0:r.done=false:=by
      cases hd:r.done with
      | false=>rfl
      | true=>have:=kdone hd;omega
     have gl:=a2.1
     have hH6:(G ++ [z3,z3,rw_,rw_,z3,Blk.free]).length=G.length+6:=by simp
     rw [hH6] at gl
     have G4:G1[G.length]?=some z3:=by rw [a2.2 _ (by omega) (by omega) (by omega),List.getElem?_append_right (Nat.le_refl _),Nat.sub_self];rfl
     have G7:G1[G.length+2]?=some rw_:=by rw [a2.2 _ (by omega) (by omega) (by omega),List.getElem?_append_right (by omega),show G.length+2 - G.length=2 by omega];rfl
     have G9:G1[G.length+4]?=some z3:=by rw [a2.2 _ (by omega) (by omega) (by omega),List.getElem?_append_right (by omega),show G.length+4 - G.length=4 by omega];rfl
     have G10:G1[G.length+5]?=some .free:=by rw [a2.2 _ (by omega) (by omega) (by omega),List.getElem?_append_right (by omega),show G.length+5 - G.length=5 by omega];rfl
     have s10:∀ b,(G1.set (G.length+5) b)[G.length+5]?=some b:=fun b=>by rw [List.getElem?_set,if_pos rfl,if_pos (by omega)]
     have s7:∀ b,(G1.set (G.length+5) b)[G.length+2]?=some rw_:=fun b=>by rw [List.getElem?_set_ne (by omega)];exact G7
     have s9:∀ b,(G1.set (G.length+5) b)[G.length+4]?=some z3:=fun b=>by rw [List.getElem?_set_ne (by omega)];exact G9
     have ss:∀ b0 b1,(G1.set (G.length+5) b0).set (G.length+5) b1=G1.set (G.length+5) b1:=fun b0 b1=>List.set_set ..
     refine done ((G1.set (G.length+5) (.cells [.int .i64 (layF t F r.elem).size,.int .i64 (layF t F r.elem).align,.is (plRows (layF t F r.elem).pl) c1])).set (G.length+4) (.cells [.int .i64 (r.len*(layF t F r.elem).size),.int .i64 (layF t F r.elem).align,.is [] .nil])) es1 ck1 ⟨r.len*(layF t F r.elem).size,(layF t F r.elem).align,[]⟩ .nil (bigF t F r.elem) (a1.keep ⟨?_,?_,?_,?_⟩) ⟨?_,fun j hj j1 j2=>?_⟩ ?_ ?_ ?_ ?_ ?_
     ·rw [List.getElem?_set_ne (by omega),List.getElem?_set_ne (by omega)]
     ·rw [List.getElem?_set_ne (by omega),List.getElem?_set_ne (by omega)]
     ·rw [List.getElem?_set_ne (by omega),List.getElem?_set_ne (by omega)]
     ·rw [List.getElem?_set_ne (by omega),List.getElem?_set_ne (by omega)]
     ·simp only [List.length_set];omega
     ·rw [List.getElem?_set_ne (by omega),List.getElem?_set_ne (by omega),a2.2 j (by omega) j1 j2,List.getElem?_append_left hj]
     ·rw [List.getElem?_set_ne (by omega),List.getElem?_set_ne (by omega)];exact G4
     ·rw [List.getElem?_set,if_pos rfl,if_pos (by simp only [List.length_set];omega)];rfl
     ·unfold rawL;rw [if_pos k14]
     ·unfold deps
      rw [if_pos k14,kmem hd0]
      simp
     ·intro tl
      unfold f39h
      unfold layV at a3
      subst hz3 hrw
      clear gl hH6 hd0 hlw hlen14 x0 x1 hfe a1 a2 hel hdl hsz ha hF hr ih hn hw hg hi hmem k1 k16 klen kdone kmem eL eB hdep done l1 l2 l3 l4 h0 hH hK1 h
      simp only [List.append_assoc,List.cons_append,List.nil_append] at hrow
      unfold trow eraseT at *
      generalize plRows (layF t F r.elem).pl=PL at *
      generalize layF t F r.elem=le at *
      obtain ⟨kind,elem,len,tag,mem,done_,cp⟩:=r
      dsimp only at *
      subst k14
      repeat (any_goals first|simp -dsimp (maxSteps:=4000000) (maxDischargeDepth:=8) -implicitDefEqProofs [*,-Int.not_le,-Int.not_lt,amLt,keyC_int,keyO_int1,found_f,mapF_map,ap4]|with_reducible (first|apply cB|apply iB)<;>intro _|intro _)
    ·have stru:∀ (raw:LayT) (G1:Heap) (es1:Ents) (ck1:Nat) (c1:Cap) (g:Nat),KInv t F T R M K KM G1 es1 ck1 (big || anyBig t F r.mem)→Ext2 K KM (G ++ [z3,z3,rw_,rw_,z3]) G1→Ccall tab g [.mp K 0,.agg (trow (eraseT r))] (G ++ [z3,z3,rw_,rw_,z3])=some (layV raw c1,G1)→rawL (layF t F) r=raw→((r.kind=15∧g=107)∨(r.kind=16∧g=108)) →
      ∃ (G':Heap) (es':Ents) (ck':Nat) (cap:Cap),KInv t F T R M K KM G' es' ck' (big || bigF t F id)∧Ext2 K KM G G'∧Ccall tab 72 [.mp K 0,.int .i64 id] G=some (layV (layF t F id) cap,G'):=by
      intro raw G1 es1 ck1 c1 g a1 a2 a3 hraw hkg
      have gl:=a2.1
      rw [hH] at gl
      have G4:G1[G.length]?=some z3:=by rw [a2.2 _ (by omega) (by omega) (by omega)];exact H4
      have G9:G1[G.length+4]?=some z3:=by rw [a2.2 _ (by omega) (by omega) (by omega)];exact H9
      refine done (G1.set (G.length+4) (.cells [.int .i64 raw.size,.int .i64 raw.align,.is (plRows raw.pl) c1])) es1 ck1 raw c1 (anyBig t F r.mem) (a1.keep ⟨?_,?_,?_,?_⟩) ⟨?_,fun j hj j1 j2=>?_⟩ ?_ ?_ hraw (deps_big (by omega)) ?_
      ·rw [List.getElem?_set_ne (by omega)]
      ·rw [List.getElem?_set_ne (by omega)]
      ·rw [List.getElem?_set_ne (by omega)]
      ·rw [List.getElem?_set_ne (by omega)]
      ·simp only [List.length_set];omega
      ·rw [List.getElem?_set_ne (by omega),a2.2 j (by omega) j1 j2,List.getElem?_append_left hj]
      ·rw [List.getElem?_set_ne (by omega)];exact G4
      ·rw [List.getElem?_set,if_pos rfl,if_pos (by omega)]
      ·intro tl
       unfold f39h
       unfold layV at a3
       subst hz3 hrw
       clear gl a1 a2 hraw hsz ha hF hr ih hn hw hg hi hmem k1 k16 klen kdone kmem eL eB hdep done l1 l2 l3 l4 h0 hH hK1 h
       simp only [List.append_assoc,List.cons_append,List.nil_append] at hrow
       unfold trow eraseT at *
       generalize plRows raw.pl=PL at *
       obtain ⟨kind,elem,len,tag,mem,done_,cp⟩:=r
       dsimp only at *
       rcases hkg with ⟨rfl,rfl⟩|⟨rfl,rfl⟩
       ·repeat (any_goals first|simp -dsimp (maxSteps:=4000000) (maxDischargeDepth:=8) -implicitDefEqProofs [*,-Int.not_le,-Int.not_lt,amLt,keyC_int,keyO_int1,found_f,mapF_map,ap4]|with_reducible (first|apply cB|apply iB)<;>intro _|intro _)
       ·repeat (any_goals first|simp -dsimp (maxSteps:=4000000) (maxDischargeDepth:=8) -implicitDefEqProofs [*,-Int.not_le,-Int.not_lt,amLt,keyC_int,keyO_int1,found_f,mapF_map,ap4]|with_reducible (first|apply cB|apply iB)<;>intro _|intro _)
     by_cases k15:r.kind=15∨r.kind=16
     ·-- a struct or a union
      have hd:r.done=true:=by
       unfold wholeR at hw
       rw [if_neg (by omega),if_neg k14,if_pos k15] at hw
       exact hw
      obtain ⟨hl64,hwm⟩:=mem_ok (ha:=ha) hmem hd
      have hfit:=mems_fit ha hr hF hmem hd
      have hlk:∀ m ∈ (eraseT r).mem,LookP t F T R M K KM m.2.1:=fun m hm=>by
       have:=hdep m.2.1 (by unfold deps;exact List.mem_append.2 (.inr (List.mem_map.2 ⟨m,hm,rfl⟩)))
       exact ih m.2.1 (by omega) (hwm m hm)
      rcases k15 with k|k
      ·obtain ⟨G1,es1,ck1,c1,a1,a2,a3⟩:=struct_fn (r:=eraseT r) hl64 hfit hlk (G ++ [z3,z3,rw_,rw_,z3]) es ck big hK1
       exact stru _ G1 es1 ck1 c1 107 a1 a2 a3 (by unfold rawL;rw [if_neg k14,if_pos k];rfl) (.inl ⟨k,rfl⟩)
      ·obtain ⟨G1,es1,ck1,c1,a1,a2,a3⟩:=union_fn (r:=eraseT r) hl64 hfit hlk (G ++ [z3,z3,rw_,rw_,z3]) es ck big hK1
       exact stru _ G1 es1 ck1 c1 108 a1 a2 a3 (by unfold rawL;rw [if_neg k14,if_neg (by omega),if_pos k];rfl) (.inr ⟨k,rfl⟩)
     ·-- a number or a pointer
      have hd0:r.done=false:=by
       cases hd:r.done with
       | false=>rfl
       | true=>exact absurd (kdone hd) k15
      have k15a:¬ r.kind=15:=fun e=>k15 (.inl e)
      have k16a:¬ r.kind=16:=fun e=>k15 (.inr e)
      have hwd:=fun h=>width_ok h r.kind
      refine done (G ++ [z3,z3,rw_,rw_,.cells [.int .i64 (widthS r.kind),.int .i64 (widthS r.kind),.is [] .nil]]) es ck ⟨widthS r.kind,widthS r.kind,[]⟩ .nil false (by rw [Bool.or_false];exact h.app _) ⟨by simp,fun j hj j1 j2=>List.getElem?_append_left hj⟩ ?_ ?_ ?_ (deps_none k15 k14 (kmem hd0)) ?_
      ·rw [List.getElem?_append_right (Nat.le_refl _),Nat.sub_self];rfl
      ·rw [List.getElem?_append_right (by omega),show G.length+4 - G.length=4 by omega];rfl
      ·unfold rawL;rw [if_neg k14,if_neg k15a,if_neg k16a]
      ·intro tl
       unfold f39h
       subst hz3 hrw
       clear stru hd0 k15 hsz ha hF hr ih hn hw hg hi hmem k1 k16 klen kdone kmem eL eB hdep done l1 l2 l3 l4 h0 hH hK1 h
       simp only [List.append_assoc,List.cons_append,List.nil_append] at hrow
       unfold trow eraseT at *
       obtain ⟨kind,elem,len,tag,mem,done_,cp⟩:=r
       dsimp only at *
       generalize widthS kind=wd at *
       repeat (any_goals first|simp -dsimp (maxSteps:=4000000) (maxDischargeDepth:=8) -implicitDefEqProofs [*,-Int.not_le,-Int.not_lt,amLt,keyC_int,keyO_int1,found_f,mapF_map,ap4]|with_reducible (first|apply cB|apply iB)<;>intro _|intro _)
  ·refine ⟨G ++ [.cells [.int .i64 (layF t F id).size,.int .i64 (layF t F id).align,.is (plRows (layF t F id).pl) cap],.cells [.int .i64 (layF t F id).size,.int .i64 (layF t F id).align,.is (plRows (layF t F id).pl) cap]],es,ck,cap,?_,Ext2.app _ _ _ _,?_⟩
   ·have hor:(big || bigF t F id)=big:=by
     cases hq:bigF t F id with
     | false=>simp
     | true=>rw [hb hq];rfl
    rw [hor];exact h.app _
   ·refine Ccall_over rfl rfl rfl rfl ?_
    unfold layV at hf ⊢
    clear hb h ih hn hw l1 l2 l3 l4 hsz ha hF hr
    generalize plRows (layF t F id).pl=PL at *
    repeat (any_goals first|simp -dsimp (maxSteps:=4000000) (maxDischargeDepth:=8) -implicitDefEqProofs [*,-Int.not_le,-Int.not_lt,amLt,keyC_int,keyO_int1,found_t,mapF_map,ap4]|with_reducible (first|apply cB|apply iB)<;>intro _|intro _)
end
theorem heap_app {G G':Heap} (hl:G.length≤G'.length) (h:∀ j,j<G.length→G'[j]?=G[j]?):∃ Y,G'=G ++ Y:=by
 refine ⟨G'.drop G.length,?_⟩
 conv=>lhs;rw [← List.take_append_drop G.length G']
 congr 1
 apply List.ext_getElem?
 intro i
 rw [List.getElem?_take]
 by_cases hi:i<G.length
 ·rw [if_pos hi,h i hi]
 ·rw [if_neg hi,List.getElem?_eq_none (by omega)]
def begE (t:List TR) (F:Nat) (id:Int):Int:=if hasS t id=false then 30 else if wholeS t id=false then 50 else if bigF t F id=true then 51 else 0
structure Tbl (t:List TR) (rho:Nat→Nat) (F:Nat):Prop where
 acc:AccP t
 rank:Ranked t rho
 hF:∀ i,i<t.length→rho i<F
 sz:∀ w ∈ t,w.mem.length≤16777216
section
variable {t:List TR} {rho:Nat→Nat} {F T R M:Nat}
theorem begin_ok (hx:Tbl t rho F) (G:Heap) (ht:TabAt G T R M t.length false t) (id:Int) :
  ∃ Y,(begE t F id≠0→Ccall tab 70 [.mp T 0,.int .i64 id] G=some (.tup [.nilp,.agg [.int .i64 0,.int .i64 0,.is [] .nil],.int .i64 (begE t F id)],G ++ Y)) ∧
   (begE t F id=0→∃ K KM es ck cap,KInv t F T R M K KM (G ++ Y) es ck false∧G.length≤K∧G.length≤KM∧Ccall tab 70 [.mp T 0,.int .i64 id] G=some (.tup [.mp K 0,layV (layF t F id) cap,.int .i64 0],G ++ Y)):=by
 have hlo:=hx.acc.lo
 have l1:=(List.getElem?_eq_some_iff.1 ht.t0).1
 have l2:=(List.getElem?_eq_some_iff.1 ht.r0).1
 have hln:=fun x=>len_ok (ht.app x)
 have hhs:=hasS_dec t id
 have hwh:=fun x=>whole_ok (ht.app x).t0 (ht.app x).r0 id
 obtain ⟨z3,hz3⟩:∃ z3:Blk,z3 = .cells [.int .i64 0,.int .i64 0,.is [] .nil]:=⟨_,rfl⟩
 have e0:¬ (t.length:Int)=0:=by omega
 have e0':¬ t.length=0:=by omega
 unfold begE
 by_cases hh:hasS t id=false
 ·-- no such type
  rw [if_pos hh]
  refine ⟨[z3],fun _=>?_,fun q=>by omega⟩
  rw [hh] at hhs
  refine Ccall_over rfl rfl rfl rfl ?_
  subst hz3
  by_cases c:id<0
  ·have c2:¬ 0≤id:=by omega
   clear hx ht l1 l2 hlo hhs hwh hh
   repeat (any_goals first|simp -dsimp (maxSteps:=4000000) (maxDischargeDepth:=8) -implicitDefEqProofs [*,-Int.not_le,-Int.not_lt,amLt,ap4]|with_reducible (first|apply cB|apply iB)<;>intro _|intro _)
  ·have c2:0≤id:=by omega
   have c3:¬ id<t.length:=fun q=>by simp [c2,q] at hhs
   have c4:(t.length:Int)≤id:=by omega
   clear hx ht l1 l2 hlo hhs hwh hh
   repeat (any_goals first|simp -dsimp (maxSteps:=4000000) (maxDischargeDepth:=8) -implicitDefEqProofs [*,-Int.not_le,-Int.not_lt,amLt,ap4]|with_reducible (first|apply cB|apply iB)<;>intro _|intro _)
 ·rw [if_neg hh]
  have hh2:hasS t id=true:=by simpa using hh
  rw [hh2] at hhs
  have c12:0≤id∧id<t.length:=by
   have:=hhs.symm
   simpa using this
  obtain ⟨c2,c3⟩:=c12
  have c1:¬ id<0:=by omega
  have c4:¬ (t.length:Int)≤id:=by omega
  by_cases hw:wholeS t id=false
  ·rw [if_pos hw]
   rw [hw] at hwh
   refine ⟨[z3],fun _=>?_,fun q=>by omega⟩
   refine Ccall_over rfl rfl rfl rfl ?_
   subst hz3
   clear hx ht l1 l2 hlo hhs hh hw hh2
   repeat (any_goals first|simp -dsimp (maxSteps:=4000000) (maxDischargeDepth:=8) -implicitDefEqProofs [*,-Int.not_le,-Int.not_lt,amLt,ap4]|with_reducible (first|apply cB|apply iB)<;>intro _|intro _)
  ·rw [if_neg hw]
   have hw2:wholeS t id=true:=by simpa using hw
   rw [hw2] at hwh
   obtain ⟨kb,hkb⟩:∃ kb:Blk,kb = .cells [.mp T 0,.mm (G.length+1),.bool false]:=⟨_,rfl⟩
   have hk0:KInv t F T R M (G.length+2) (G.length+1) (G ++ [z3,.map [] 0,kb,.free]) [] 0 false:=by
    refine ⟨ht.app _,?_,?_,fun e he=>(by cases he),by omega,by omega,by omega,by omega,by omega⟩
    ·rw [hkb,List.getElem?_append_right (by omega),show G.length+2 - G.length=2 by omega];rfl
    ·rw [List.getElem?_append_right (by omega),show G.length+1 - G.length=1 by omega];rfl
   obtain ⟨G1,es,ck,cap,k1,x1,b1⟩:=look_all hx.acc hx.rank hx.hF hx.sz (rho id.toNat+1) id (by omega) hw2 _ _ _ _ hk0
   rw [Bool.false_or] at k1
   have gl:=x1.1
   have hH:(G ++ [z3,.map [] 0,kb,Blk.free]).length=G.length+4:=by simp
   rw [hH] at gl
   have G5:G1[G.length]?=some z3:=by rw [x1.2 _ (by omega) (by omega) (by omega),List.getElem?_append_right (Nat.le_refl _),Nat.sub_self];rfl
   have G8:G1[G.length+3]?=some .free:=by rw [x1.2 _ (by omega) (by omega) (by omega),List.getElem?_append_right (by omega),show G.length+3 - G.length=3 by omega];rfl
   have GK:=k1.k
   have s8:∀ b,(G1.set (G.length+3) b)[G.length+3]?=some b:=fun b=>by rw [List.getElem?_set,if_pos rfl,if_pos (by omega)]
   have s5:∀ b,(G1.set (G.length+3) b)[G.length]?=some z3:=fun b=>by rw [List.getElem?_set_ne (by omega)];exact G5
   have sK:∀ b,(G1.set (G.length+3) b)[G.length+2]?=some (.cells [.mp T 0,.mm (G.length+1),.bool (bigF t F id)]):=fun b=>by rw [List.getElem?_set_ne (by omega)];exact GK
   have ss:∀ b0 b1,(G1.set (G.length+3) b0).set (G.length+3) b1=G1.set (G.length+3) b1:=fun b0 b1=>List.set_set ..
   have s55:∀ b0 b1,((G1.set (G.length+3) b0).set G.length b1)[G.length]?=some b1:=fun b0 b1=>by rw [List.getElem?_set,if_pos rfl,if_pos (by simp only [List.length_set];omega)]
   have old:∀ b0 b1 j,j<G.length→((G1.set (G.length+3) b0).set G.length b1)[j]?=G[j]?:=fun b0 b1 j hj=>by
    rw [List.getElem?_set_ne (by omega),List.getElem?_set_ne (by omega),x1.2 j (by omega) (by omega) (by omega),List.getElem?_append_left hj]
   cases hb:bigF t F id with
   | true =>
    rw [if_pos rfl]
    obtain ⟨Y,hY⟩:=heap_app (G:=G) (G':=(G1.set (G.length+3) (.cells [.int .i64 (layF t F id).size,.int .i64 (layF t F id).align,.is (plRows (layF t F id).pl) cap])).set G.length z3) (by simp only [List.length_set];omega) (old _ _)
    refine ⟨Y,fun _=>?_,fun q=>by omega⟩
    rw [← hY]
    rw [hb] at sK GK
    unfold layV at b1
    refine Ccall_over rfl rfl rfl rfl ?_
    subst hz3 hkb
    generalize plRows (layF t F id).pl=PL at *
    clear hx ht l1 l2 hlo hhs hh hw hh2 hw2 k1 x1 gl hH old hY hk0 hb G5
    repeat (any_goals first|simp -dsimp (maxSteps:=4000000) (maxDischargeDepth:=8) -implicitDefEqProofs [*,-Int.not_le,-Int.not_lt,amLt,ap4,maxI1,Nat.add_assoc]|with_reducible (first|apply cB|apply iB)<;>intro _|intro _)
   | false =>
    rw [if_neg (by simp)]
    obtain ⟨Y,hY⟩:=heap_app (G:=G) (G':=(G1.set (G.length+3) (.cells [.int .i64 (layF t F id).size,.int .i64 (layF t F id).align,.is (plRows (layF t F id).pl) cap])).set G.length (.cells [.int .i64 (layF t F id).size,.int .i64 (layF t F id).align,.is (plRows (layF t F id).pl) cap])) (by simp only [List.length_set];omega) (old _ _)
    refine ⟨Y,fun q=>absurd rfl q,fun _=>⟨G.length+2,G.length+1,es,ck,cap,?_,by omega,by omega,?_⟩⟩
    ·rw [← hY]
     rw [hb] at k1
     refine k1.keep ⟨?_,?_,?_,?_⟩
     ·rw [List.getElem?_set_ne (by omega),List.getElem?_set_ne (by omega)]
     ·rw [List.getElem?_set_ne (by omega),List.getElem?_set_ne (by omega)]
     ·rw [List.getElem?_set_ne (by omega),List.getElem?_set_ne (by omega)]
     ·rw [List.getElem?_set_ne (by omega),List.getElem?_set_ne (by omega)]
    ·rw [← hY]
     rw [hb] at sK GK
     unfold layV at b1 ⊢
     refine Ccall_over rfl rfl rfl rfl ?_
     subst hz3 hkb
     generalize plRows (layF t F id).pl=PL at *
     clear hx ht l1 l2 hlo hhs hh hw hh2 hw2 k1 x1 gl hH old hY hk0 hb G5
     repeat (any_goals first|simp -dsimp (maxSteps:=4000000) (maxDischargeDepth:=8) -implicitDefEqProofs [*,-Int.not_le,-Int.not_lt,amLt,ap4,maxI1,Nat.add_assoc]|with_reducible (first|apply cB|apply iB)<;>intro _|intro _)
end
def sizE (t:List TR) (F:Nat) (id:Int):Int:=if begE t F id=0 then (layF t F id).size else 0
def aliE (t:List TR) (F:Nat) (id:Int):Int:=if begE t F id=0 then (layF t F id).align else 0
def recS (t:List TR) (id:Int):Bool:=decide (kindS t id=15∨kindS t id=16)
def plaE (t:List TR) (F:Nat) (id:Int):Int:=if begE t F id=0 then (if recS t id=true then 0 else 30) else begE t F id
section
variable {t:List TR} {rho:Nat→Nat} {F T R M:Nat}
theorem size_ok (hx:Tbl t rho F) (G:Heap) (ht:TabAt G T R M t.length false t) (id:Int):∃ Y,Ccall tab 66 [.mp T 0,.int .i64 id] G=some (.tup [.int .i64 (sizE t F id),.int .i64 (begE t F id)],G ++ Y):=by
 obtain ⟨Y,h1,h2⟩:=begin_ok hx (G ++ [.free]) (ht.app _) id
 unfold sizE
 by_cases h0:begE t F id=0
 ·obtain ⟨K,KM,es,ck,cap,_,_,_,hb⟩:=h2 h0
  rw [if_pos h0,h0]
  unfold layV at hb
  refine ⟨[.cells [.int .i64 (layF t F id).size,.int .i64 (layF t F id).align,.is (plRows (layF t F id).pl) cap]] ++ Y,?_⟩
  refine Ccall_over rfl rfl rfl rfl ?_
  generalize plRows (layF t F id).pl=PL at *
  clear h1 h2 ht hx h0
  simp only [List.append_assoc,List.cons_append,List.nil_append] at *
  repeat (any_goals first|simp -dsimp (maxSteps:=4000000) (maxDischargeDepth:=8) -implicitDefEqProofs [*,-Int.not_le,-Int.not_lt,amLt,ap4]|with_reducible (first|apply cB|apply iB)<;>intro _|intro _)
 ·have hb:=h1 h0
  rw [if_neg h0]
  generalize begE t F id=e at *
  refine ⟨[.cells [.int .i64 0,.int .i64 0,.is [] .nil]] ++ Y,?_⟩
  refine Ccall_over rfl rfl rfl rfl ?_
  clear h1 h2 ht hx h0
  simp only [List.append_assoc,List.cons_append,List.nil_append] at *
  repeat (any_goals first|simp -dsimp (maxSteps:=4000000) (maxDischargeDepth:=8) -implicitDefEqProofs [*,-Int.not_le,-Int.not_lt,amLt,ap4]|with_reducible (first|apply cB|apply iB)<;>intro _|intro _)
end
end Go.Proofs.YtfhijkapcdmdnaaGreatDoor
