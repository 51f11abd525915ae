/- The abstract machine: arguments, as the row's form reads them, are values of the machine. -/
import Derived.Test.YtfhijkapcdmdnaaGreatDoorAmT
import Derived.Test.YtfhijkapcdmdnaaGreatDoorRows
import Derived.OpenShut
import Derived.Carry
import Derived.JoinedCond
import Derived.SizedLaws
namespace Go.AM
inductive Sh where
 | bool
 | int (k:IntKind)
 | str
 | sl (s:Sh)
 | st (fs:List Sh)
 | arr (n:Nat) (s:Sh)
mutual
def Sh.sz:Sh→Nat
 | .bool=>1
 | .int _=>1
 | .str=>1
 | .sl _=>1
 | .st fs=>szL fs
 | .arr n s=>n*s.sz
def szL:List Sh→Nat
 | []=>0
 | s :: r=>s.sz+szL r
end
mutual
def Sh.Row (B:Nat):Sh→List AV→Prop
 | .bool,r=>∃ b,r=[.bool b]
 | .int k,r=>∃ n,(Lit.int k n).wf=true∧r=[.int k n]
 | .str,r=>∃ s:List UInt8,s.length≤B∧r=[.str s]
 | .sl s,r=>∃ rows,r=[.is rows .no]∧rows.length≤B∧∀ row ∈ rows,s.Row B row
 | .st fs,r=>RowL B fs r
 | .arr n s,r=>∃ rows:List (List AV),rows.length=n∧r=rows.flatten∧∀ row ∈ rows,s.Row B row
def RowL (B:Nat):List Sh→List AV→Prop
 | [],r=>r=[]
 | s :: ss,r=>∃ a b,r=a ++ b∧s.Row B a∧RowL B ss b
end
mutual
def shOK (P:Program):TypeId→Sh→Bool
 | t,.bool=>match P.underlying t with|some .bool=>true|_=>false
 | t,.int k=>match P.underlying t with|some (.int k')=>decide (k'=k)|_=>false
 | t,.str=>match P.underlying t with|some .string=>true|_=>false
 | t,.sl s=>match P.underlying t with|some (.slice e)=>shOK P e s && P.cellsOf e == s.sz && decide (0<s.sz)|_=>false
 | t,.st fs=>match P.underlying t with|some (.struct fds)=>P.cellsOf t == szL fs && shOKL P fds.toList fs 0|_=>false
 | t,.arr n s=>match P.underlying t with|some (.array m e)=>decide (m=n) && shOK P e s && P.cellsOf e == s.sz && P.cellsOf t == n*s.sz|_=>false
def shOKL (P:Program):List Field→List Sh→Nat→Bool
 | [],[],_=>true
 | f :: fs,s :: ss,o=>f.offset == o && shOK P f.type s && P.cellsOf f.type == s.sz && shOKL P fs ss (o+s.sz)
 | _,_,_=>false
end
mutual
def within {H:Type} (B:Nat):DataW H→Bool
 | .lit (.string b)=>decide (b.length≤B)
 | .slice es _=>decide (es.length≤B) && withinL B es
 | .agg ps=>withinL B ps
 | _=>true
def withinL {H:Type} (B:Nat):List (DataW H)→Bool
 | []=>true
 | d :: r=>within B d && withinL B r
end
theorem withinL_mem {H:Type} {B:Nat}:∀ {l:List (DataW H)},withinL B l=true→∀ (i:Nat) d,l[i]?=some d→within B d=true:=by
 intro l
 induction l with
 | nil=>intro _ i d h;simp at h
 | cons x r ih =>
  intro h i d hd
  simp only [withinL,Bool.and_eq_true] at h
  cases i with
  | zero=>simp at hd;subst hd;exact h.1
  | succ i=>exact ih h.2 i d (by simpa using hd)
theorem pickRows {α:Type} {Q:Nat→α→Prop}:∀ (n:Nat),(∀ i,i<n→∃ x,Q i x)→∃ l:List α,l.length=n∧∀ i x,l[i]?=some x→Q i x:=by
 intro n
 induction n with
 | zero=>intro _;exact ⟨[],rfl,fun i x h=>by simp at h⟩
 | succ n ih =>
  intro h
  obtain ⟨l,h1,h2⟩:=ih fun i hi=>h i (by omega)
  obtain ⟨x,hx⟩:=h n (by omega)
  refine ⟨l ++ [x],by simp [h1],fun i y hy=>?_⟩
  rw [List.getElem?_append] at hy
  split at hy
  ·exact h2 i y hy
  ·rename_i hlt
   have:i=n:=by
    have:=(List.getElem?_eq_some_iff.1 hy).1
    simp at this;omega
   subst this
   simp [h1] at hy
   subst hy
   exact hx
section
variable {H:Type} {enc:TypeId × Value→H} {P:Program} {w:World} {B:Nat}
def ReadsAs (w:World) (B:Nat) (s:Sh) (cs:List Value) (o:Nat):Prop :=
 ∃ row,s.Row B row∧row.length=s.sz∧∀ (j:Nat) x,row[j]?=some x→IR w (fun b _=>b<w.heap.size) x (cs.getD (o+j) Go.undef)
theorem getD_part {cs:List Value} {o m j:Nat} (hj:j<m):((cs.drop o).take m).getD (0+j) Go.undef=cs.getD (o+j) Go.undef:=by
 simp only [List.getD_eq_getElem?_getD,Nat.zero_add]
 rw [List.getElem?_take_of_lt hj,List.getElem?_drop]
theorem fields_read {n:Nat} {cs:List Value} (ih:∀ (s:Sh) (t:TypeId) (c:List Value) (d:DataW H) (ps:List MemPlace),shOK P t s=true→DataW.trod enc P w 0 (fun _=>true) true n t c=some (d,ps)→within B d=true→ReadsAs w B s c 0) :
  ∀ (fl:List Field) (ss:List Sh) (o:Nat) (xs:List (DataW H × List MemPlace)),shOKL P fl ss o=true→xs.length=fl.length →
   (∀ (i:Nat) f,fl[i]?=some f→DataW.trod enc P w 0 (fun _=>true) true n f.type ((cs.drop f.offset).take (P.cellsOf f.type))=xs[i]?)→withinL B (xs.map (·.1))=true →
   ∃ row,RowL B ss row∧row.length=szL ss∧∀ (j:Nat) x,row[j]?=some x→IR w (fun b _=>b<w.heap.size) x (cs.getD (o+j) Go.undef):=by
 intro fl
 induction fl with
 | nil =>
  intro ss o xs hok _ _ _
  cases ss with
  | nil=>exact ⟨[],rfl,rfl,fun j x hx=>by simp at hx⟩
  | cons s r=>simp [shOKL] at hok
 | cons f fl ihf =>
  intro ss o xs hok hlen hget hlim
  cases ss with
  | nil=>simp [shOKL] at hok
  | cons s ss =>
   simp only [shOKL,Bool.and_eq_true,beq_iff_eq] at hok
   obtain ⟨⟨⟨ho,hs⟩,hc⟩,hrest⟩:=hok
   cases xs with
   | nil=>simp at hlen
   | cons x xs =>
    simp only [List.map_cons,withinL,Bool.and_eq_true] at hlim
    have h0:=hget 0 f rfl
    simp only [List.getElem?_cons_zero] at h0
    obtain ⟨d,ps⟩:=x
    obtain ⟨row,r1,r2,r3⟩:=ih s f.type _ d ps hs h0 hlim.1
    obtain ⟨row2,g1,g2,g3⟩:=ihf ss (o+s.sz) xs hrest (by simpa using hlen) (fun i f' hf=>by simpa using hget (i+1) f' (by simpa using hf)) hlim.2
    refine ⟨row ++ row2,⟨row,row2,rfl,r1,g1⟩,by simp [r2,g2,szL],fun j x hx=>?_⟩
    rw [List.getElem?_append] at hx
    split at hx
    ·rename_i hlt
     have:=r3 j x hx
     rw [ho,hc,getD_part (by omega)] at this
     exact this
    ·rename_i hlt
     have:=g3 _ x hx
     rw [show o+s.sz+(j - row.length)=o+j by omega] at this
     exact this
theorem trod_row:∀ (n:Nat) (s:Sh) (t:TypeId) (cs:List Value) (d:DataW H) (ps:List MemPlace),shOK P t s=true→DataW.trod enc P w 0 (fun _=>true) true n t cs=some (d,ps)→within B d=true→ReadsAs w B s cs 0:=by
 intro n
 induction n with
 | zero=>intro s t cs d ps _ h;simp [DataW.trod] at h
 | succ n ih =>
  intro s t cs d ps hok h hlim
  have one:∀ {v:Value} {x:AV},cs=[v]→IR w (fun b _=>b<w.heap.size) x v→∀ (j:Nat) y,[x][j]?=some y→IR w (fun b _=>b<w.heap.size) y (cs.getD (0+j) Go.undef):=by
   rintro v x rfl hr j y hy
   cases j with
   | zero=>simp at hy;subst hy;simpa using hr
   | succ j=>simp at hy
  cases s with
  | bool =>
   simp only [shOK] at hok
   split at hok
   ·rename_i hu
    obtain ⟨b,rfl,_⟩:=DataW.trod_bool hu h
    exact ⟨[.bool b],⟨b,rfl⟩,rfl,one rfl (.bool b)⟩
   ·cases hok
  | int k =>
   simp only [shOK] at hok
   split at hok
   ·rename_i k' hu
    have:k'=k:=by simpa using hok
    subst this
    obtain ⟨m,rfl,_,hw⟩:=DataW.trod_int hu h
    exact ⟨[.int k' m],⟨m,hw,rfl⟩,rfl,one rfl (.int k' m)⟩
   ·cases hok
  | str =>
   simp only [shOK] at hok
   split at hok
   ·rename_i hu
    obtain ⟨sv,rfl,hx,_⟩:=DataW.trod_string hu h
    cases hx
    refine ⟨[.str sv.data.toList],⟨_,by simpa [within] using hlim,rfl⟩,rfl,one rfl ?_⟩
    have:=IR.str (w:=w) (im:=fun b _=>b<w.heap.size) sv.data.toList
    simpa using this
   ·cases hok
  | sl s =>
   simp only [shOK] at hok
   split at hok
   ·rename_i e hu
    simp only [Bool.and_eq_true,beq_iff_eq,decide_eq_true_eq] at hok
    obtain ⟨⟨hs,hc⟩,hz⟩:=hok
    rcases DataW.trod_slice hu h with ⟨rfl,_⟩|⟨a,len,cap,elems,rest,m,hm,rfl,hx,_,hl,_,hel,hget,hsp,_⟩
    ·exact ⟨[.is [] .no],⟨[],rfl,Nat.zero_le _,fun row h=>by simp at h⟩,rfl,one rfl (.is [] .no none 0 0 0 0 (fun _ _=>Go.undef) (fun h=>by omega) trivial (fun row hr=>by simp at hr) (Nat.le_refl _) (fun i row j x h=>by simp at h) (fun i row j x h=>by simp at h) (fun i row j x h=>by simp at h))⟩
    ·cases hx
     cases hm
     simp only [within,Bool.and_eq_true,decide_eq_true_eq,List.length_map] at hlim
     obtain ⟨hrl,hrg⟩:=hsp rfl
     rw [hc] at hget hrg
     have hcell:∀ (i:Nat) (r:Option (DataW H × List MemPlace)) y,r=some y→(w.cells? 0 (a.add (i*s.sz)) s.sz).bind (DataW.trod enc P w 0 (fun _=>true) true n e)=r→∃ c,w.cells? 0 (a.add (i*s.sz)) s.sz=some c∧DataW.trod enc P w 0 (fun _=>true) true n e c=some y:=by
      intro i r y hr hb
      rw [hr] at hb
      cases hq:w.cells? 0 (a.add (i*s.sz)) s.sz with
      | none=>rw [hq] at hb;cases hb
      | some c=>rw [hq] at hb;exact ⟨c,rfl,hb⟩
     have hat:0<cap→a=⟨a.block,a.off,none⟩∧a.block<w.heap.size:=by
      intro hpos
      have:∃ c,w.cells? 0 a s.sz=some c:=by
       rcases Nat.eq_zero_or_pos len with q|q
       ·subst q
        have h0:=hrg 0 (by omega)
        obtain ⟨y,hy⟩:∃ y,rest[0]?=some y:=⟨_,List.getElem?_eq_getElem (by omega)⟩
        obtain ⟨c,hc',_⟩:=hcell (0+0) _ y hy h0
        exact ⟨c,by simpa [Addr.add] using hc'⟩
       ·have h0:=hget 0 q
        obtain ⟨y,hy⟩:∃ y,elems[0]?=some y:=⟨_,List.getElem?_eq_getElem (by omega)⟩
        obtain ⟨c,hc',_⟩:=hcell 0 _ y hy h0
        exact ⟨c,by simpa [Addr.add] using hc'⟩
      obtain ⟨c,hc'⟩:=this
      obtain ⟨_,g2,g3⟩:=World.cells?_some hc'
      have g:=g3 0 hz
      rw [show a.add 0=a by simp [Addr.add],List.getElem?_eq_getElem (by omega)] at g
      unfold World.cell? at g
      split at g
      ·rename_i hh
       split at g
       ·cases g
       ·rename_i hsp
        refine ⟨?_,?_⟩
        ·obtain ⟨b,o,sp⟩:=a
         cases sp with
         | none=>rfl
         | some _=>simp at hsp
        ·rcases Nat.lt_or_ge a.block w.heap.size with q|q
         ·exact q
         ·rw [Array.getElem?_eq_none q] at hh;cases hh
      ·cases g
     obtain ⟨rows,k1,k2⟩:=pickRows (Q:=fun i row=>s.Row B row∧row.length=s.sz∧∀ (j:Nat) x,row[j]?=some x→∃ u,w.cell? ⟨a.block,a.off+i*s.sz+j,none⟩=some u∧IR w (fun b _=>b<w.heap.size) x u) len (fun i hi=>by
      obtain ⟨y,hy⟩:∃ y,elems[i]?=some y:=⟨_,List.getElem?_eq_getElem (by omega)⟩
      obtain ⟨c,hc1,hc2⟩:=hcell i _ y hy (hget i hi)
      obtain ⟨d',ps'⟩:=y
      have hli:within B d'=true:=withinL_mem hlim.2 i d' (by simp [hy])
      obtain ⟨row,r1,r2,r3⟩:=ih s e c d' ps' hs hc2 hli
      refine ⟨row,r1,r2,fun j x hx=>?_⟩
      have hj:=(List.getElem?_eq_some_iff.1 hx).1
      obtain ⟨_,g2,g3⟩:=World.cells?_some hc1
      have g:=g3 j (by omega)
      have hr:=r3 j x hx
      rw [Nat.zero_add] at hr
      have hcj:c[j]?=some (c.getD j Go.undef):=by
       rw [List.getElem?_eq_getElem (by omega)]
       simp [List.getD_eq_getElem?_getD,show j<c.length by omega]
      rw [hcj,(hat (by omega)).1,add_off,add_off] at g
      exact ⟨_,g,hr⟩)
     refine ⟨[.is rows .no],⟨rows,rfl,by omega,fun row hrow=>?_⟩,rfl,one rfl ?_⟩
     ·obtain ⟨i,hi⟩:=List.mem_iff_getElem?.1 hrow
      exact (k2 i row hi).1
     ·have:=IR.is (w:=w) (im:=fun b _=>b<w.heap.size) rows .no (some a) a.block a.off s.sz cap (fun i j=>(w.cell? ⟨a.block,a.off+i*s.sz+j,none⟩).getD Go.undef) (fun h=>by rw [← (hat h).1]) trivial
       (fun row hrow=>by obtain ⟨i,hi⟩:=List.mem_iff_getElem?.1 hrow;exact (k2 i row hi).2.1) (by omega)
       (fun i row j x hi hj=>(hat (by have:=(List.getElem?_eq_some_iff.1 hi).1;omega)).2)
       (fun i row j x hi hj=>by obtain ⟨u,hu,_⟩:=(k2 i row hi).2.2 j x hj;simp [hu])
       (fun i row j x hi hj=>by obtain ⟨u,hu,hr⟩:=(k2 i row hi).2.2 j x hj;simpa [hu] using hr)
      rw [k1] at this
      exact this
   ·cases hok
  | st fs =>
   simp only [shOK] at hok
   split at hok
   ·rename_i fds hu
    simp only [Bool.and_eq_true,beq_iff_eq] at hok
    obtain ⟨xs,m,hm,hx,hcl,hxl,hget⟩:=DataW.trod_struct hu h
    cases hm
    cases hx
    obtain ⟨row,r1,r2,r3⟩:=fields_read (cs:=cs) ih fds.toList fs 0 xs hok.2 (by simpa using hxl) (fun i f hf=>hget i f (by simpa using hf)) (by simpa [within] using hlim)
    exact ⟨row,r1,r2,r3⟩
   ·cases hok
  | arr k s =>
   simp only [shOK] at hok
   split at hok
   ·rename_i m0 e hu
    simp only [Bool.and_eq_true,beq_iff_eq,decide_eq_true_eq] at hok
    obtain ⟨⟨⟨rfl,hs⟩,hc⟩,hct⟩:=hok
    obtain ⟨xs,m,hm,hx,hcl,hxl,hget⟩:=DataW.trod_array hu h
    cases hm
    cases hx
    rw [hc] at hget
    obtain ⟨rows,k1,k2⟩:=pickRows (Q:=fun i row=>s.Row B row∧row.length=s.sz∧∀ (j:Nat) x,row[j]?=some x→IR w (fun b _=>b<w.heap.size) x (cs.getD (i*s.sz+j) Go.undef)) m0 (fun i hi=>by
     obtain ⟨y,hy⟩:∃ y,xs[i]?=some y:=⟨_,List.getElem?_eq_getElem (by omega)⟩
     obtain ⟨d',ps'⟩:=y
     have hli:within B d'=true:=withinL_mem (by simpa [within] using hlim) i d' (by simp [hy])
     obtain ⟨row,r1,r2,r3⟩:=ih s e _ d' ps' hs ((hget i hi).trans hy) hli
     refine ⟨row,r1,r2,fun j x hx=>?_⟩
     have hj:=(List.getElem?_eq_some_iff.1 hx).1
     have:=r3 j x hx
     rw [getD_part (by omega)] at this
     exact this)
    have hz:∀ row ∈ rows,row.length=s.sz:=fun row hrow=>by
     obtain ⟨i,hi⟩:=List.mem_iff_getElem?.1 hrow
     exact (k2 i row hi).2.1
    refine ⟨rows.flatten,⟨rows,k1,rfl,fun row hrow=>?_⟩,by rw [flat_len hz,k1];rfl,fun j x hx=>?_⟩
    ·obtain ⟨i,hi⟩:=List.mem_iff_getElem?.1 hrow
     exact (k2 i row hi).1
    ·have hj:=(List.getElem?_eq_some_iff.1 hx).1
     rw [flat_len hz] at hj
     obtain ⟨row,g1,g2⟩:=flat_get hz j hj
     rw [g2] at hx
     have:=(k2 _ row g1).2.2 _ x hx
     have hdm:=Nat.div_add_mod j s.sz
     rw [Nat.mul_comm] at hdm
     rw [hdm] at this
     simpa using this
   ·cases hok
end
mutual
def dataRow:DataW Unit→Option (List AV)
 | .lit (.bool b)=>some [.bool b]
 | .lit (.int k n)=>some [.int k n]
 | .lit (.string s)=>some [.str s]
 | .agg ps=>dataRowL ps
 | _=>none
def dataRowL:List (DataW Unit)→Option (List AV)
 | []=>some []
 | d :: r=>match dataRow d,dataRowL r with
  | some a,some b=>some (a ++ b)
  | _,_=>none
end
section
variable {P:Program} {w:World} {im:Imm}
def DetAs (w:World) (im:Imm) (m:Nat) (cs:List Value) (o:Nat) (row:List AV):Prop:=row.length=m∧∀ (j:Nat) x,row[j]?=some x→IR w im x (cs.getD (o+j) Go.undef)
theorem dataRowL_cons {d:DataW Unit} {r:List (DataW Unit)} {row:List AV} (h:dataRowL (d :: r)=some row):∃ a b,dataRow d=some a∧dataRowL r=some b∧row=a ++ b:=by
 simp only [dataRowL] at h
 split at h
 ·rename_i a b h1 h2;cases h;exact ⟨a,b,h1,h2,rfl⟩
 ·cases h
theorem DetAs.append {m k o:Nat} {cs:List Value} {a b:List AV} (h1:DetAs w im m cs o a) (h2:DetAs w im k cs (o+m) b):DetAs w im (m+k) cs o (a ++ b):=by
 refine ⟨by simp [h1.1,h2.1],fun j x hx=>?_⟩
 rw [List.getElem?_append] at hx
 split at hx
 ·exact h1.2 j x hx
 ·rename_i hlt
  have:=h2.2 _ x hx
  rw [h1.1] at this hlt
  rwa [show o+m+(j - m)=o+j by omega] at this
theorem DetAs.part {m o:Nat} {cs:List Value} {a:List AV} (h:DetAs w im m ((cs.drop o).take m) 0 a):DetAs w im m cs o a:=by
 refine ⟨h.1,fun j x hx=>?_⟩
 have hj:=(List.getElem?_eq_some_iff.1 hx).1
 have:=h.2 j x hx
 rwa [getD_part (by rw [← h.1];exact hj)] at this
theorem fields_det {hd:Bool} {n:Nat} {cs:List Value} (ih:∀ (s:Sh) (t:TypeId) (c:List Value) (d:DataW Unit) (ps:List MemPlace) (row:List AV),shOK P t s=true→DataW.trod (fun _=>()) P w 0 (fun _=>true) hd n t c=some (d,ps)→dataRow d=some row→DetAs w im s.sz c 0 row) :
  ∀ (fl:List Field) (ss:List Sh) (o:Nat) (xs:List (DataW Unit × List MemPlace)) (row:List AV),shOKL P fl ss o=true→xs.length=fl.length →
   (∀ (i:Nat) f,fl[i]?=some f→DataW.trod (fun _=>()) P w 0 (fun _=>true) hd n f.type ((cs.drop f.offset).take (P.cellsOf f.type))=xs[i]?)→dataRowL (xs.map (·.1))=some row →
   DetAs w im (szL ss) cs o row:=by
 intro fl
 induction fl with
 | nil =>
  intro ss o xs row hok hlen _ hr
  cases ss with
  | nil =>
   have:xs=[]:=List.eq_nil_of_length_eq_zero (by simpa using hlen)
   subst this
   cases hr
   exact ⟨rfl,fun j x hx=>by simp at hx⟩
  | cons s r=>simp [shOKL] at hok
 | cons f fl ihf =>
  intro ss o xs row hok hlen hget hr
  cases ss with
  | nil=>simp [shOKL] at hok
  | cons s ss =>
   simp only [shOKL,Bool.and_eq_true,beq_iff_eq] at hok
   obtain ⟨⟨⟨ho,hs⟩,hc⟩,hrest⟩:=hok
   cases xs with
   | nil=>simp at hlen
   | cons x xs =>
    obtain ⟨a,b,ha,hb,rfl⟩:=dataRowL_cons hr
    have h0:=hget 0 f rfl
    simp only [List.getElem?_cons_zero] at h0
    obtain ⟨d,ps⟩:=x
    have r1:=ih s f.type _ d ps a hs h0 ha
    rw [ho,hc] at r1
    exact r1.part.append (ihf ss (o+s.sz) xs b hrest (by simpa using hlen) (fun i f' hf=>by simpa using hget (i+1) f' (by simpa using hf)) hb)
theorem items_det {hd:Bool} {n:Nat} {e:TypeId} {s:Sh} {cs:List Value} (ih:∀ (c:List Value) (d:DataW Unit) (ps:List MemPlace) (row:List AV),DataW.trod (fun _=>()) P w 0 (fun _=>true) hd n e c=some (d,ps)→dataRow d=some row→DetAs w im s.sz c 0 row) :
  ∀ (xs:List (DataW Unit × List MemPlace)) (k:Nat) (row:List AV),(∀ (i:Nat),i<xs.length→DataW.trod (fun _=>()) P w 0 (fun _=>true) hd n e ((cs.drop ((k+i)*s.sz)).take s.sz)=xs[i]?)→dataRowL (xs.map (·.1))=some row →
   DetAs w im (xs.length*s.sz) cs (k*s.sz) row:=by
 intro xs
 induction xs with
 | nil=>intro k row _ hr;cases hr;exact ⟨by simp,fun j x hx=>by simp at hx⟩
 | cons x xs ihx =>
  intro k row hget hr
  obtain ⟨a,b,ha,hb,rfl⟩:=dataRowL_cons hr
  have h0:=hget 0 (by simp)
  simp only [List.getElem?_cons_zero,Nat.add_zero] at h0
  obtain ⟨d,ps⟩:=x
  have r1:=(ih _ d ps a h0 ha).part
  have r2:=ihx (k+1) b (fun i hi=>by
   have:=hget (i+1) (by simp;omega)
   rw [show k+(i+1)=k+1+i by omega] at this
   simpa using this) hb
  rw [Nat.succ_mul] at r2
  have:=r1.append r2
  rwa [show s.sz+xs.length*s.sz=((d,ps) :: xs).length*s.sz by simp [Nat.succ_mul,Nat.add_comm]] at this
theorem trod_det {hd:Bool}:∀ (n:Nat) (s:Sh) (t:TypeId) (cs:List Value) (d:DataW Unit) (ps:List MemPlace) (row:List AV),shOK P t s=true→DataW.trod (fun _=>()) P w 0 (fun _=>true) hd n t cs=some (d,ps)→dataRow d=some row→DetAs w im s.sz cs 0 row:=by
 intro n
 induction n with
 | zero=>intro s t cs d ps row _ h;simp [DataW.trod] at h
 | succ n ih =>
  intro s t cs d ps row hok h hr
  have one:∀ {v:Value} {x:AV},cs=[v]→row=[x]→IR w im x v→DetAs w im 1 cs 0 row:=by
   rintro v x rfl rfl hr
   refine ⟨rfl,fun j y hy=>?_⟩
   cases j with
   | zero=>simp at hy;subst hy;simpa using hr
   | succ j=>simp at hy
  cases s with
  | bool =>
   simp only [shOK] at hok
   split at hok
   ·rename_i hu
    obtain ⟨b,rfl,hq⟩:=DataW.trod_bool hu h
    cases hq
    exact one rfl (Option.some.inj hr).symm (.bool b)
   ·cases hok
  | int k =>
   simp only [shOK] at hok
   split at hok
   ·rename_i k' hu
    obtain ⟨m,rfl,hq,hw⟩:=DataW.trod_int hu h
    cases hq
    exact one rfl (Option.some.inj hr).symm (.int k' m)
   ·cases hok
  | str =>
   simp only [shOK] at hok
   split at hok
   ·rename_i hu
    obtain ⟨sv,rfl,hq,_⟩:=DataW.trod_string hu h
    cases hq
    refine one rfl (Option.some.inj hr).symm ?_
    have:=IR.str (w:=w) (im:=im) sv.data.toList
    simpa using this
   ·cases hok
  | sl s =>
   simp only [shOK] at hok
   split at hok
   ·rename_i e hu
    rcases DataW.trod_slice hu h with ⟨rfl,hq⟩|⟨a,len,cap,elems,rest,m,hm,rfl,hq,_⟩
    ·cases hq;cases hr
    ·cases hq;cases hr
   ·cases hok
  | st fs =>
   simp only [shOK] at hok
   split at hok
   ·rename_i fds hu
    simp only [Bool.and_eq_true,beq_iff_eq] at hok
    obtain ⟨xs,m,hm,hx,hcl,hxl,hget⟩:=DataW.trod_struct hu h
    cases hm
    cases hx
    exact fields_det (cs:=cs) ih fds.toList fs 0 xs row hok.2 (by simpa using hxl) (fun i f hf=>hget i f (by simpa using hf)) hr
   ·cases hok
  | arr k s =>
   simp only [shOK] at hok
   split at hok
   ·rename_i m0 e hu
    simp only [Bool.and_eq_true,beq_iff_eq,decide_eq_true_eq] at hok
    obtain ⟨⟨⟨rfl,hs⟩,hc⟩,hct⟩:=hok
    obtain ⟨xs,m,hm,hx,hcl,hxl,hget⟩:=DataW.trod_array hu h
    cases hm
    cases hx
    rw [hc] at hget
    have:=items_det (s:=s) (cs:=cs) (fun c d ps row h1 h2=>ih s e c d ps row hs h1 h2) xs 0 row (fun i hi=>by simpa using hget i (by omega)) hr
    rw [hxl] at this
    have e0:(Sh.arr m0 s).sz=m0*s.sz:=by simp [Sh.sz]
    rw [e0]
    simpa using this
   ·cases hok
theorem trod_len {hd:Bool} {n:Nat} {s:Sh} {t:TypeId} {cs:List Value} {d:DataW Unit} {ps:List MemPlace} {row:List AV} (hok:shOK P t s=true) (h:DataW.trod (fun _=>()) P w 0 (fun _=>true) hd n t cs=some (d,ps)) (_:dataRow d=some row):cs.length=s.sz:=by
 cases s with
 | bool =>
  simp only [shOK] at hok
  split at hok
  ·rename_i hu;obtain ⟨b,rfl,hq⟩:=DataW.trod_bool hu h;rfl
  ·cases hok
 | int k =>
  simp only [shOK] at hok
  split at hok
  ·rename_i k' hu;obtain ⟨m,rfl,hq,hw⟩:=DataW.trod_int hu h;rfl
  ·cases hok
 | str =>
  simp only [shOK] at hok
  split at hok
  ·rename_i hu;obtain ⟨sv,rfl,hq,_⟩:=DataW.trod_string hu h;rfl
  ·cases hok
 | sl s =>
  simp only [shOK] at hok
  split at hok
  ·rename_i e hu
   rcases DataW.trod_slice hu h with ⟨rfl,hq⟩|⟨a,len,cap,elems,rest,m,hm,rfl,hq,_⟩
   ·rfl
   ·rfl
  ·cases hok
 | st fs =>
  simp only [shOK] at hok
  split at hok
  ·rename_i fds hu
   simp only [Bool.and_eq_true,beq_iff_eq] at hok
   obtain ⟨xs,m,hm,hx,hcl,_⟩:=DataW.trod_struct hu h
   rw [hcl,hok.1];rfl
  ·cases hok
 | arr k s =>
  simp only [shOK] at hok
  split at hok
  ·rename_i m0 e hu
   simp only [Bool.and_eq_true,beq_iff_eq,decide_eq_true_eq] at hok
   obtain ⟨xs,m,hm,hx,hcl,_⟩:=DataW.trod_array hu h
   rw [hcl,hok.2];rfl
  ·cases hok
theorem laid_find {laid:List (String × DataW Unit)}:∀ {ps:List MemPlace},DataW.LaidVars P w laid ps→∀ {nm:String} {d:DataW Unit},(nm,d) ∈ laid→∃ g t cs fuel p,P.globalNamed nm=some g∧(P.globals[g]?).map (·.type)=some t∧w.var? P nm=some cs ∧
  DataW.trod (fun _=>()) P w 0 (fun _=>true) false fuel t cs.toList=some (d,p):=by
 induction laid with
 | nil=>intro ps _ nm d h;cases h
 | cons x r ih =>
  intro ps h nm d hm
  obtain ⟨n,d0⟩:=x
  obtain ⟨g,t,cs,fuel,p,q,h1,h2,h3,h4,h5,_⟩:=h
  rcases List.mem_cons.1 hm with e|hm
  ·cases e;exact ⟨g,t,cs,fuel,p,h1,h2,h3,h4⟩
  ·exact ih h5 hm
theorem laid_ip {laid:List (String × DataW Unit)} (h:laidMet P laid w) {nm:String} {d:DataW Unit} (hm:(nm,d) ∈ laid) {g:Nat} {t:TypeId} {s:Sh} {row:List AV} (hg:P.globalNamed nm=some g) (ht:(P.globals[g]?).map (·.type)=some t) (hs:shOK P t s=true) (hr:dataRow d=some row) :
  IR w (fun b _=>b<w.heap.size) (.ip row 0) (.pointer (some ⟨g,0,none⟩))∧∃ e,w.shape? g=some (e,row.length):=by
 obtain ⟨ps,hl,_⟩:=h
 obtain ⟨g',t',cs,fuel,p,h1,h2,h3,h4⟩:=laid_find hl hm
 obtain rfl:=Option.some.inj (hg.symm.trans h1)
 obtain rfl:=Option.some.inj (ht.symm.trans h2)
 obtain ⟨d1,d2⟩:=trod_det (im:=fun b _=>b<w.heap.size) fuel s t _ d p row hs h4 hr
 have hcell:=World.var?_cell hg h3
 have hlt:g<w.heap.size:=by
  simp only [World.var?,hg,Option.bind_some] at h3
  rcases Nat.lt_or_ge g w.heap.size with q|q
  ·exact q
  ·rw [Array.getElem?_eq_none q] at h3;cases h3
 have hlen:=trod_len hs h4 hr
 refine ⟨?_,?_⟩
 case refine_2 =>
  simp only [World.var?,hg,Option.bind_some] at h3
  split at h3
  ·rename_i cs' e' fz' hq
   cases h3
   exact ⟨e',by simp [World.shape?,hq,d1,← hlen]⟩
  ·cases h3
 refine .ip row 0 g 0 (fun j=>cs.getD j Go.undef) (Nat.le_refl _) (fun j x hx=>hlt) (fun j x hx=>?_) (fun j x hx=>by simpa [Array.getD_eq_getD_getElem?,List.getD_eq_getElem?_getD] using d2 j x hx)
 have e1:(0:Nat) - 0+j=j:=by omega
 rw [e1,hcell j]
 have hj:=(List.getElem?_eq_some_iff.1 hx).1
 have hjc:j<cs.size:=by rw [← Array.length_toList];omega
 simp [Array.getD_eq_getD_getElem?,hjc]
end
end Go.AM
