/- The abstract machine: what an operation answers is what the model's operation answers. Second part: operations on memory that is built, read and written. -/
import Derived.Test.YtfhijkapcdmdnaaGreatDoorAmD
namespace Go.AM
variable {G:GTab}
theorem run_new {slot:Nat} {b:Blk} {k:HC} {h:Heap} {r:AV × Heap} (hr:(HC.new b k).run slot h=some r):∃ b0,h[slot]?=some b0∧b0.isFree=true∧k.run slot (h.set slot b)=some r:=by
 simp only [HC.run] at hr
 split at hr
 ·rename_i b0 h0
  split at hr
  ·rename_i hf;exact ⟨b0,h0,hf,hr⟩
  ·cases hr
 ·cases hr
theorem run_rd {slot id:Nat} {k:Blk→HC} {h:Heap} {r:AV × Heap} (hr:(HC.rd id k).run slot h=some r):∃ b,h[id]?=some b∧b.isFree=false∧(k b).run slot h=some r:=by
 simp only [HC.run] at hr
 split at hr
 ·rename_i b h0
  split at hr
  ·cases hr
  ·rename_i hf;exact ⟨b,h0,by simpa using hf,hr⟩
 ·cases hr
theorem run_wr {slot id:Nat} {b:Blk} {k:HC} {h:Heap} {r:AV × Heap} (hr:(HC.wr id b k).run slot h=some r):∃ b0,h[id]?=some b0∧b0.isFree=false∧k.run slot (h.set id b)=some r:=by
 simp only [HC.run] at hr
 split at hr
 ·rename_i b0 h0
  split at hr
  ·cases hr
  ·rename_i hf;exact ⟨b0,h0,by simpa using hf,hr⟩
 ·cases hr
theorem run_done {slot:Nat} {v:AV} {h:Heap} {r:AV × Heap} (hr:(HC.done v).run slot h=some r):r=(v,h):=by
 simp only [HC.run,Option.some.injEq] at hr;exact hr.symm
theorem run_ofOpt {slot:Nat} {x:Option AV} {h:Heap} {r:AV × Heap} (hr:(HC.ofOpt x).run slot h=some r):∃ v,x=some v∧r=(v,h):=by
 cases x with
 | none=>simp [HC.ofOpt,HC.run] at hr
 | some v=>exact ⟨v,rfl,run_done hr⟩
section
variable {P:Program} {o:Oper} {a:Act} {w:World} {phi:Phi} {im:Imm} {h:Heap} {env:Env} {slot:Nat} {v:AV} {h':Heap}
theorem Good.new (s:SR w phi im h) {b0:Blk} (hs:h[slot]?=some b0) (hf:b0.isFree=true) {w':World} {c:Array Value} {e:TypeId} {fz:Nat × Nat} {rv:Value}
  (er:(execOp a.eval o).run P w = .ok (.value rv) w') (hw:w'.heap=w.heap.push (.cells c e fz)) (h1:w'.os=w.os) (h2:w'.tape=w.tape) (h3:w'.output=w.output)
  {cs:List AV} (hl:cs.length≤c.size) (hv:∀ (j:Nat) x,cs[j]?=some x→VR w phi im x (c.getD j Go.undef)) (hz:∀ j,j<c.size→¬ (fz.1≤j∧j<fz.2))
  (hr:VR w' (phiAt phi slot w.heap.size 0) im v rv):Good P o a w phi im v (h.set slot (.cells cs)):=by
 obtain ⟨s',p'⟩:=s.new hs hf hw h1 h2 h3 im (fun _ _ h=>h) (fun _ _ h => .inl h) (k:= .cells cs) (sh:=0)
  (fun p=>⟨c,e,fz,by rw [hw];simp,by omega,fun j x hj=>by rw [Nat.zero_add];exact p.mono (hv j x hj),hz,fun o _ hi=>by have:=s.imlt _ _ hi;omega⟩)
 exact ⟨_,rv,w',_,im,er,.inl rfl,hr,s',p'⟩
def imNew (im:Imm) (b n:Nat):Imm:=fun k o=>im k o∨(k=b∧o<n)
def RowsAt (w:World) (im:Imm) (rows:List (List AV)) (b o sz:Nat):Prop :=
 (∀ row ∈ rows,row.length=sz)∧∀ (i:Nat) row (j:Nat) x,rows[i]?=some row→row[j]?=some x→im b (o+i*sz+j)∧∃ u,w.cell? ⟨b,o+i*sz+j,none⟩=some u∧IR w im x u
theorem RowsAt.nil {w:World} {im:Imm} {b o sz:Nat}:RowsAt w im [] b o sz:=⟨fun row h=>by simp at h,fun i row j x h=>by simp at h⟩
theorem RowsAt.mono {w w':World} {im im':Imm} {rows:List (List AV)} {b o sz:Nat} (h:RowsAt w im rows b o sz) (hh:∀ b o,im b o→w'.cell? ⟨b,o,none⟩=w.cell? ⟨b,o,none⟩) (hm:∀ b o,im b o→im' b o):RowsAt w' im' rows b o sz :=
 ⟨h.1,fun i row j x h1 h2=>by obtain ⟨g1,u,g2,g3⟩:=h.2 i row j x h1 h2;exact ⟨hm _ _ g1,u,by rw [hh _ _ g1];exact g2,g3.mono hh hm⟩⟩
theorem RowsAt.append {w:World} {im:Imm} {r1 r2:List (List AV)} {b o sz:Nat} (h1:RowsAt w im r1 b o sz) (h2:RowsAt w im r2 b (o+r1.length*sz) sz):RowsAt w im (r1 ++ r2) b o sz:=by
 refine ⟨fun row hr=>(List.mem_append.1 hr).elim (h1.1 row) (h2.1 row),fun i row j x hi hj=>?_⟩
 rw [List.getElem?_append] at hi
 split at hi
 ·exact h1.2 i row j x hi hj
 ·have:=h2.2 _ row j x hi hj
  have e:o+r1.length*sz+(i - r1.length)*sz+j=o+i*sz+j:=by
   have:r1.length*sz+(i - r1.length)*sz=i*sz:=by rw [← Nat.add_mul];congr 1;omega
   omega
  rwa [e] at this
theorem VR.rows {rows:List (List AV)} {cap:Cap} {base:Option Addr} {b o sz rcap:Nat} (hb:0<rcap→base=some ⟨b,o,none⟩) (hl:rows.length≤rcap) (hr:RowsAt w im rows b o sz) (hcap:Room w phi rows base b o sz rcap cap) :
  VR w phi im (.is rows cap) (.slice base rows.length rcap) :=
 VR.is_mk (vs:=fun i j=>(w.cell? ⟨b,o+i*sz+j,none⟩).getD Go.undef) hb hr.1 hl (fun i row j x h1 h2=>(hr.2 i row j x h1 h2).1) (fun i row j x h1 h2=>by obtain ⟨_,u,g,_⟩:=hr.2 i row j x h1 h2;simp [g])
  (fun i row j x h1 h2=>by obtain ⟨_,u,g,k⟩:=hr.2 i row j x h1 h2;simpa [g] using k) hcap
theorem VR.rows_inv {rows:List (List AV)} {cap:Cap} {u:Value} (h:VR w phi im (.is rows cap) u):∃ (base:Option Addr) (b o sz rcap:Nat),u = .slice base rows.length rcap∧(0<rcap→base=some ⟨b,o,none⟩)∧rows.length≤rcap∧RowsAt w im rows b o sz∧Room w phi rows base b o sz rcap cap:=by
 obtain ⟨base,b,o,sz,rcap,vs,rfl,hb,hz,hl,hi,hc,hr,hcap⟩:=h.is_inv
 exact ⟨base,b,o,sz,rcap,rfl,hb,hl,⟨hz,fun i row j x h1 h2=>⟨hi i row j x h1 h2,_,hc i row j x h1 h2,hr i row j x h1 h2⟩⟩,hcap⟩
theorem chunk_get (sz:Nat):∀ (n:Nat) (cs:List AV),cs.length=n*sz→(chunk sz n cs).length=n∧(∀ row ∈ chunk sz n cs,row.length=sz)∧∀ (i:Nat) row,(chunk sz n cs)[i]?=some row→∀ (j:Nat) x,row[j]?=some x→cs[i*sz+j]?=some x:=by
 intro n
 induction n with
 | zero=>intro cs h;exact ⟨rfl,fun row hr=>by simp [chunk] at hr,fun i row hr=>by simp [chunk] at hr⟩
 | succ n ih =>
  intro cs h
  rw [Nat.succ_mul] at h
  obtain ⟨h1,h2,h3⟩:=ih (cs.drop sz) (by simp;omega)
  refine ⟨by simp [chunk,h1],fun row hr=>?_,fun i row hr j x hx=>?_⟩
  ·simp only [chunk,List.mem_cons] at hr
   rcases hr with rfl|hr
   ·simp;omega
   ·exact h2 row hr
  ·cases i with
   | zero =>
    simp [chunk] at hr
    subst hr
    have hlt:=set_lt hx
    simp at hlt
    rw [List.getElem?_take_of_lt (by omega)] at hx
    simpa using hx
   | succ i =>
    simp [chunk] at hr
    have:=h3 i row hr j x hx
    rw [List.getElem?_drop] at this
    rw [show (i+1)*sz+j=sz+(i*sz+j) by rw [Nat.succ_mul];omega]
    exact this
theorem RowsAt.chunk {w:World} {im:Imm} {cs:List AV} {b o sz n:Nat} (hl:cs.length=n*sz) (h:∀ (j:Nat) x,cs[j]?=some x→im b (o+j)∧∃ u,w.cell? ⟨b,o+j,none⟩=some u∧IR w im x u):RowsAt w im (chunk sz n cs) b o sz:=by
 obtain ⟨h1,h2,h3⟩:=chunk_get sz n cs hl
 refine ⟨h2,fun i row j x hi hj=>?_⟩
 have:=h _ x (h3 i row hi j x hj)
 rwa [← Nat.add_assoc] at this
theorem cell_push {w w':World} {c:Array Value} {e:TypeId} {fz:Nat × Nat} (hw:w'.heap=w.heap.push (.cells c e fz)) {j:Nat} (hj:j<c.size):w'.cell? ⟨w.heap.size,j,none⟩=some (c.getD j Go.undef):=by
 simp [World.cell?,hw,Array.getD_eq_getD_getElem?,hj]
theorem cells_new {cs:List AV} {c:Array Value} {n:Nat} {e:TypeId} {fz:Nat × Nat} {w':World} (hw:w'.heap=w.heap.push (.cells c e fz)) (p:Post w phi im w' phi (imNew im w.heap.size n)) (hn:n≤c.size) (hl:cs.length≤n)
  (hv:∀ (j:Nat) x,cs[j]?=some x→VR w phi im x (c.getD j Go.undef)) (hi:imm.immL cs=true) :
  ∀ (j:Nat) x,(strip.stripL cs)[j]?=some x→imNew im w.heap.size n w.heap.size j∧∃ u,w'.cell? ⟨w.heap.size,j,none⟩=some u∧IR w' (imNew im w.heap.size n) x u:=by
 intro j x hj
 have hlt:=set_lt hj
 rw [stripL_len] at hlt
 obtain ⟨y,h1,rfl⟩:=stripL_get hj
 refine ⟨.inr ⟨rfl,by omega⟩,_,cell_push hw (by omega),?_⟩
 exact ((hv j y h1).to_imm (immL_spec hi j y h1)).mono p.imkeep p.imext
theorem IR.place {w:World} {im:Imm} {row:List AV} {b:Nat} (h:∀ (j:Nat) x,row[j]?=some x→im b j∧∃ u,w.cell? ⟨b,j,none⟩=some u∧IR w im x u):IR w im (.ip row 0) (.pointer (some ⟨b,0,none⟩)) :=
 .ip row 0 b 0 (fun j=>(w.cell? ⟨b,j,none⟩).getD Go.undef) (Nat.le_refl _) (fun j x hj=>by simpa using (h j x hj).1)
  (fun j x hj=>by obtain ⟨_,u,g,_⟩:=h j x hj;simp [g]) (fun j x hj=>by obtain ⟨_,u,g,k⟩:=h j x hj;simpa [g] using k)
theorem Good.val (s:SR w phi im h) {w':World} {c:Array Value} {e:TypeId} {fz:Nat × Nat} {rv:Value} (n:Nat)
  (er:(execOp a.eval o).run P w = .ok (.value rv) w') (hw:w'.heap=w.heap.push (.cells c e fz)) (h1:w'.os=w.os) (h2:w'.tape=w.tape) (h3:w'.output=w.output)
  (hr:Post w phi im w' phi (imNew im w.heap.size n)→VR w' phi (imNew im w.heap.size n) v rv):Good P o a w phi im v h:=by
 obtain ⟨s',p'⟩:=s.push hw h1 h2 h3 (imNew im w.heap.size n) (fun _ _ h => .inl h) (fun _ _ h=>h.imp id fun q=>q.1)
 exact ⟨_,rv,w',phi,_,er,.inl rfl,hr p',s',p'⟩
theorem Good.tok (s:SR w phi im h) {b0:Blk} (hs:h[slot]?=some b0) (hf:b0.isFree=true) {w':World} {c:Array Value} {e:TypeId} {fz:Nat × Nat} {rv:Value} (n:Nat)
  (er:(execOp a.eval o).run P w = .ok (.value rv) w') (hw:w'.heap=w.heap.push (.cells c e fz)) (h1:w'.os=w.os) (h2:w'.tape=w.tape) (h3:w'.output=w.output)
  (hz:∀ j,j<c.size→¬ (fz.1≤j∧j<fz.2))
  (hr:Post w phi im w' phi (imNew im w.heap.size n)→Post w phi im w' (phiAt phi slot w.heap.size n) (imNew im w.heap.size n)→VR w' (phiAt phi slot w.heap.size n) (imNew im w.heap.size n) v rv):Good P o a w phi im v (h.set slot .tok):=by
 obtain ⟨_,p0⟩:=s.push hw h1 h2 h3 (imNew im w.heap.size n) (fun _ _ h => .inl h) (fun _ _ h=>h.imp id fun q=>q.1)
 obtain ⟨s',p'⟩:=s.new hs hf hw h1 h2 h3 (imNew im w.heap.size n) (fun _ _ h => .inl h) (fun _ _ h=>h.imp id fun q=>q.1) (k:= .tok) (sh:=n)
  (fun p=>⟨c,e,fz,by rw [hw];simp,hz,fun o ho hi=>by (rcases hi with hi|⟨_,hi⟩;(have:=s.imlt _ _ hi;omega);omega)⟩)
 exact ⟨_,rv,w',_,_,er,.inl rfl,hr p0 p',s',p'⟩
theorem good_move {x:Operand} {y:AO} (ho:o.op = .move x∨o.op = .assign x) (hx:compO G x=some y) (e:ER G w phi im env a.tmps) (s:SR w phi im h):Good P o a w phi im (ev env y) h:=by
 refine .here s ?_ (compO_ok e hx)
 rcases ho with ho|ho<;>simp [execOp,ho]
theorem good_pick {x y z:Operand} {c p q:AO} (ho:o.op = .pick x y z) (hx:compO G x=some c) (hy:compO G y=some p) (hz:compO G z=some q) (e:ER G w phi im env a.tmps) (s:SR w phi im h)
  (hr:(aop slot env (.pick c p q)).run slot h=some (v,h')):Good P o a w phi im v h':=by
 have hc:=compO_ok e hx
 simp only [aop] at hr
 split at hr
 ·rename_i t ht
  rw [ht] at hc
  have:=hc.bool_inv
  cases run_done hr
  refine .here s (rv:=if t then a.eval y else a.eval z) ?_ ?_
  ·simp only [execOp,ho,this,asBool,Sem.run_bind,Sem.run_pure,Result.andThen_ok]
  ·cases t
   ·exact compO_ok e hz
   ·exact compO_ok e hy
 ·cases hr
theorem good_alloc {t:TypeId} {z:List AV} {vl:Bool} (ho:o.op = .alloc t) (hz:zcells P t=some z) (s:SR w phi im h)
  (hr:(aop slot env (.alloc vl z)).run slot h=some (v,h')):Good P o a w phi im v h':=by
 obtain ⟨zv,hrun,hsz,hval⟩:=zcells_ok hz
 simp only [aop] at hr
 split at hr
 ·cases run_done hr
  refine Good.val s (w':={ w with heap:=w.heap.push (.cells zv.cells t) }) (c:=zv.cells) (e:=t) (fz:=(0,0)) (rv:= .pointer (some ⟨w.heap.size,0,none⟩)) zv.cells.size ?_ rfl rfl rfl rfl fun p=>?_
  ·simp [execOp,ho,Instr.alloc,hrun,newVar,newRow]
  ·have key:∀ (j:Nat) x,(strip.stripL z)[j]?=some x→imNew im w.heap.size zv.cells.size w.heap.size j∧∃ u,World.cell? { w with heap:=w.heap.push (.cells zv.cells t) } ⟨w.heap.size,j,none⟩=some u∧IR { w with heap:=w.heap.push (.cells zv.cells t) } (imNew im w.heap.size zv.cells.size) x u:=fun j x hj=>by
    have hlt:=set_lt hj
    rw [stripL_len] at hlt
    obtain ⟨y,h1,rfl⟩:=stripL_get hj
    exact ⟨.inr ⟨rfl,by omega⟩,_,cell_push rfl (by omega),(hval _ _ j y h1).strip⟩
   exact .imm (IR.place key)
 ·obtain ⟨b0,hs,hf,hk⟩:=run_new hr
  cases run_done hk
  refine Good.new s hs hf (w':={ w with heap:=w.heap.push (.cells zv.cells t) }) (c:=zv.cells) (e:=t) (fz:=(0,0)) (rv:= .pointer (some ⟨w.heap.size,0,none⟩)) ?_ rfl rfl rfl rfl
   (by omega) (fun j x hj => .imm (hval w im j x hj)) (fun j _=>by simp) (.mp slot 0 _ 0 (by simp [phiAt]))
  simp [execOp,ho,Instr.alloc,hrun,newVar,newRow]
theorem good_box {t:TypeId} {x:Operand} {y:AO} {vl:Bool} (ho:o.op = .box t x) (hx:compO G x=some y) (e:ER G w phi im env a.tmps) (s:SR w phi im h)
  (hr:(aop slot env (.box vl y)).run slot h=some (v,h')):Good P o a w phi im v h':=by
 simp only [aop] at hr
 split at hr
 ·rename_i cs hcs
  obtain ⟨hl,hv⟩:=cellsOf_ok (compO_ok e hx) hcs
  have run:(execOp a.eval o).run P w = .ok (.value (.pointer (some ⟨w.heap.size,0,none⟩))) { w with heap:=w.heap.push (.cells (a.eval x).cells t) }:=by simp [execOp,ho,Instr.box,newVar,newRow]
  split at hr
  ·split at hr
   ·rename_i himm
    cases run_done hr
    refine Good.val s (c:=(a.eval x).cells) (e:=t) (fz:=(0,0)) (a.eval x).cells.size run rfl rfl rfl rfl fun p=>?_
    have key:=cells_new (w:=w) (phi:=phi) (im:=im) (cs:=cs) (c:=(a.eval x).cells) (n:=(a.eval x).cells.size) (e:=t) (fz:=(0,0)) rfl p (Nat.le_refl _) (by omega) hv himm
    exact .imm (IR.place key)
   ·cases hr
  ·obtain ⟨b0,hs,hf,hk⟩:=run_new hr
   cases run_done hk
   exact Good.new s hs hf (c:=(a.eval x).cells) (e:=t) (fz:=(0,0)) run rfl rfl rfl rfl (by omega) hv (fun j _=>by simp) (.mp slot 0 _ 0 (by simp [phiAt]))
 ·cases hr
theorem splice_length {cs xs:List AV} {off:Nat} (h:off+xs.length≤cs.length):(splice cs off xs).length=cs.length:=by
 simp [splice];omega
theorem splice_get {cs xs:List AV} {off:Nat} (h:off+xs.length≤cs.length) (i:Nat) :
  (splice cs off xs)[i]?=if i<off then cs[i]? else if i<off+xs.length then xs[i - off]? else cs[i]?:=by
 have ht:(cs.take off).length=off:=by simp;omega
 unfold splice
 rw [List.append_assoc]
 by_cases h1:i<off
 ·rw [if_pos h1,List.getElem?_append_left (by rw [ht];exact h1),List.getElem?_take_of_lt h1]
 ·rw [if_neg h1,List.getElem?_append_right (by rw [ht];omega),ht]
  by_cases h2:i<off+xs.length
  ·rw [if_pos h2,List.getElem?_append_left (by omega)]
  ·rw [if_neg h2,List.getElem?_append_right (by omega),List.getElem?_drop]
   congr 1;omega
theorem setAll (off:Nat):∀ (l:List Value) (k:Nat) (cells:Array Value),off+k+l.length≤cells.size →
  ((l.zipIdx k).foldl (fun cs (p:Value × Nat)=>cs.setIfInBounds (off+p.2) p.1) cells).size=cells.size ∧
  ∀ i,((l.zipIdx k).foldl (fun cs (p:Value × Nat)=>cs.setIfInBounds (off+p.2) p.1) cells).getD i Go.undef =
   if i<off+k then cells.getD i Go.undef else if i<off+k+l.length then l.getD (i - (off+k)) Go.undef else cells.getD i Go.undef:=by
 intro l
 induction l with
 | nil=>intro k cells _;refine ⟨rfl,fun i=>?_⟩;simp only [List.zipIdx_nil,List.foldl_nil,List.length_nil,Nat.add_zero];split<;>(try split)<;>first|rfl|omega
 | cons x r ih =>
  intro k cells hle
  simp only [List.length_cons] at hle
  simp only [List.zipIdx_cons,List.foldl_cons]
  obtain ⟨h1,h2⟩:=ih (k+1) (cells.setIfInBounds (off+k) x) (by simp;omega)
  refine ⟨by rw [h1];simp,fun i=>?_⟩
  rw [h2 i]
  have hlt:off+k<cells.size:=by omega
  by_cases c1:i<off+k
  ·rw [if_pos (by omega),if_pos c1]
   simp [Array.getD_eq_getD_getElem?,show ¬ off+k=i by omega]
  ·rw [if_neg c1]
   by_cases c2:i=off+k
   ·subst c2
    rw [if_pos (by omega),if_pos (by simp)]
    simp [Array.getD_eq_getD_getElem?,hlt]
   ·rw [if_neg (by omega)]
    by_cases c3:i<off+k+(r.length+1)
    ·rw [if_pos (by omega),if_pos (by simp;omega)]
     rw [show i - (off+k)=(i - (off+(k+1)))+1 by omega]
     simp
    ·rw [if_neg (by omega),if_neg (by simp;omega)]
     simp [Array.getD_eq_getD_getElem?,show ¬ off+k=i by omega]
inductive Parts (w:World) (phi:Phi) (im:Imm) (env:Env) (place:Nat→Option (Nat × Nat)):List (Nat × Value)→List (Nat × Nat × AO)→Prop
 | nil:Parts w phi im env place [] []
 | cons {i:Nat} {u:Value} {off size:Nat} {x:AO} {r:List (Nat × Value)} {l:List (Nat × Nat × AO)} (hp:place i=some (off,size)) (hv:VR w phi im (ev env x) u)
   (hr:Parts w phi im env place r l):Parts w phi im env place ((i,u) :: r) ((off,size,x) :: l)
theorem fillp_ok {place:Nat→Option (Nat × Nat)}:∀ {r:List (Nat × Value)} {l:List (Nat × Nat × AO)},Parts w phi im env place r l→∀ {cs cs':List AV} {c:Array Value},
  c.size=cs.length→(∀ (j:Nat) x,cs[j]?=some x→VR w phi im x (c.getD j Go.undef))→fillp env cs l=some cs' →
  ∃ c',Instr.fill place c r=some c'∧c'.size=cs'.length∧cs'.length=cs.length∧∀ (j:Nat) x,cs'[j]?=some x→VR w phi im x (c'.getD j Go.undef):=by
 intro r l hp
 induction hp with
 | nil=>intro cs cs' c hn hv hf;cases hf;exact ⟨c,rfl,hn,rfl,hv⟩
 | @cons i u off size x r l hpl hu hr ih =>
  intro cs cs' c hn hv hf
  simp only [fillp] at hf
  split at hf
  ·cases hf
  ·rename_i xs hxs
   split at hf
   ·rename_i hle
    obtain ⟨hsz,hle⟩:=hle
    obtain ⟨hl,hc⟩:=cellsOf_ok hu hxs
    obtain ⟨g1,g2⟩:=setAll off u.cells.toList 0 c (by simp;omega)
    have hsl:=splice_length (cs:=cs) (xs:=xs) (off:=off) (by omega)
    obtain ⟨c',h1,h2,h3,h4⟩:=ih (cs:=splice cs off xs) (cs':=cs') (c:=(u.cells.toList.zipIdx).foldl (fun cs (p:Value × Nat)=>cs.setIfInBounds (off+p.2) p.1) c) (by rw [g1,hn,hsl]) (fun j y hj=>by
     rw [g2 j]
     rw [splice_get (by omega)] at hj
     by_cases c1:j<off
     ·rw [if_pos (by omega)];rw [if_pos c1] at hj;exact hv j y hj
     ·rw [if_neg (by omega)];rw [if_neg c1] at hj
      by_cases c2:j<off+xs.length
      ·rw [if_pos c2] at hj
       rw [if_pos (by simp;omega)]
       have:=hc _ _ hj
       simpa [Array.getD_eq_getD_getElem?] using this
      ·rw [if_neg c2] at hj
       rw [if_neg (by simp;omega)]
       exact hv j y hj) hf
    refine ⟨c',?_,h2,by rw [h3,hsl],h4⟩
    simp only [Instr.fill,hpl]
    rw [if_neg (by simp;omega)]
    rw [← h1]
    congr 1
    rw [← Array.foldl_toList,Array.toList_zipIdx]
   ·cases hf
theorem compEP_ok {sz:Nat} (e:ER G w phi im env a.tmps):∀ {l:List (Nat × Operand)} {m:List (Nat × Nat × AO)},compEP G sz l=some m →
  Parts w phi im env (fun i=>some (i*sz,sz)) (l.map fun p=>(p.1,a.eval p.2)) m:=by
 intro l
 induction l with
 | nil=>intro m h;cases h;exact .nil
 | cons p r ih =>
  intro m h
  obtain ⟨i,x⟩:=p
  simp only [compEP] at h
  split at h
  ·rename_i y l' h1 h2
   cases h
   exact .cons rfl (compO_ok e h1) (ih h2)
  ·cases h
theorem compFP_ok {fs:Array Field} {pl:Array (Nat × Nat)} (hpl:∀ (i:Nat) f sz,fs[i]?=some f→tsize P f.type=some sz→pl[i]?=some (f.offset,sz)) (e:ER G w phi im env a.tmps) :
  ∀ {l:List (Nat × Operand)} {m:List (Nat × Nat × AO)},compFP P G fs l=some m→Parts w phi im env (fun i=>pl[i]?) (l.map fun p=>(p.1,a.eval p.2)) m:=by
 intro l
 induction l with
 | nil=>intro m h;cases h;exact .nil
 | cons p r ih =>
  intro m h
  obtain ⟨i,x⟩:=p
  simp only [compFP] at h
  split at h
  ·rename_i f hf
   split at h
   ·rename_i sz y l' h1 h2 h3
    cases h
    exact .cons (hpl i f sz hf h1) (compO_ok e h2) (ih h3)
   ·cases h
  ·cases h
theorem run_mapM_list {α β:Type} (g:α→Sem β) (k:α→β):∀ (l:List α),(∀ x ∈ l,(g x).run P w = .ok (k x) w)→(l.mapM g).run P w = .ok (l.map k) w:=by
 intro l
 induction l with
 | nil=>intro _;simp
 | cons x r ih =>
  intro hx
  simp only [List.mapM_cons,Sem.run_bind,hx x (by simp),Result.andThen_ok,ih (fun y hy=>hx y (by simp [hy])),Sem.run_pure,List.map_cons]
theorem run_mapM_array {α β:Type} (g:α→Sem β) (k:α→β) (l:Array α) (hx:∀ x ∈ l,(g x).run P w = .ok (k x) w):(l.mapM g).run P w = .ok (l.map k) w:=by
 rw [Array.mapM_eq_mapM_toList,Sem.run_map,run_mapM_list g k l.toList (fun x hxl=>hx x (Array.mem_toList_iff.1 hxl)),Result.andThen_ok]
 congr 1
 apply Array.ext'
 simp
theorem map_parts (l:Array (Nat × Operand)):(l.map fun (i,x)=>(i,a.eval x)).toList=l.toList.map fun p=>(p.1,a.eval p.2):=by
 simp
theorem good_build {t:TypeId} {parts:Array (Nat × Operand)} {ao:AOp} (ho:o.op = .build t parts) {vl:Bool} (hc:compOp1 P G vl (.build t parts)=some ao) (e:ER G w phi im env a.tmps) (s:SR w phi im h)
  (hr:(aop slot env ao).run slot h=some (v,h')):Good P o a w phi im v h':=by
 simp only [compOp1] at hc
 split at hc
 ·rename_i z fs hz hu
  split at hc
  ·rename_i hall
   simp only [Option.map_eq_some_iff] at hc
   obtain ⟨m,hm,rfl⟩:=hc
   simp only [aop] at hr
   split at hr
   ·rename_i cs hcs
    cases run_done hr
    obtain ⟨zv,hrun,hsz,hval⟩:=zcells_ok hz
    have hpl:(fs.mapM fun f=>do pure (f.offset,← sizeOf f.type):Sem (Array (Nat × Nat))).run P w = .ok (fs.map fun f=>(f.offset,(tsize P f.type).getD 0)) w:=by
     refine run_mapM_array _ _ fs fun f hf=>?_
     have:(P.info? f.type).isSome=true:=by
      rw [Array.all_eq_true_iff_forall_mem] at hall
      exact hall f hf
     obtain ⟨i,hi⟩:=Option.isSome_iff_exists.1 this
     simp [sizeOf,typeInfo,hi,tsize]
    have hp:=compFP_ok (P:=P) (fs:=fs) (pl:=fs.map fun f=>(f.offset,(tsize P f.type).getD 0)) (fun i f sz hf hs=>by simp [hf,hs]) e hm
    obtain ⟨c',h1,h2,h3,h4⟩:=fillp_ok hp hsz (fun j x hj=>VR.imm (hval w im j x hj)) hcs
    refine .here s (rv:= .agg c') ?_ (.agg _ _ h2 h4)
    simp only [execOp,ho,Instr.build,Sem.run_bind,hrun,Result.andThen_ok,und_ok hu,hpl,map_parts,h1,Sem.run_pure]
   ·cases hr
  ·cases hc
 ·rename_i z n el hz hu
  split at hc
  ·rename_i sz hs
   simp only [Option.map_eq_some_iff] at hc
   obtain ⟨m,hm,rfl⟩:=hc
   simp only [aop] at hr
   split at hr
   ·rename_i cs hcs
    cases run_done hr
    obtain ⟨zv,hrun,hsz,hval⟩:=zcells_ok hz
    obtain ⟨c',h1,h2,h3,h4⟩:=fillp_ok (compEP_ok e hm) hsz (fun j x hj=>VR.imm (hval w im j x hj)) hcs
    refine .here s (rv:= .agg c') ?_ (.agg _ _ h2 h4)
    simp only [execOp,ho,Instr.build,Sem.run_bind,hrun,Result.andThen_ok,und_ok hu,tsize_ok hs,map_parts,h1,Sem.run_pure]
   ·cases hr
  ·cases hc
 ·cases hc
theorem repeat_length (n:Nat) (z:List AV):(repeatCells n z).length=n*z.length:=by
 simp [repeatCells]
theorem repeat_get (z:List AV):∀ (n i:Nat),i<n*z.length→(repeatCells n z)[i]?=z[i % z.length]?:=by
 intro n
 induction n with
 | zero=>intro i h;simp at h
 | succ n ih =>
  intro i h
  have e:repeatCells (n+1) z=z ++ repeatCells n z:=by simp [repeatCells,List.replicate_succ]
  rw [e]
  by_cases hi:i<z.length
  ·rw [List.getElem?_append_left hi,Nat.mod_eq_of_lt hi]
  ·rw [List.getElem?_append_right (by omega),ih (i - z.length) (by rw [Nat.succ_mul] at h;omega),← Nat.mod_eq_sub_mod (by omega)]
theorem zero_array (z:Array Value) (n i:Nat) (hi:i<n) (hz:0<z.size):((Array.range n).map (z[· % z.size]!)).getD i Go.undef=z.getD (i % z.size) Go.undef:=by
 have:i % z.size<z.size:=Nat.mod_lt _ hz
 simp [Array.getD_eq_getD_getElem?,hi,this,getElem!_pos]
theorem zeros_ok {t:TypeId} {z:List AV} (hz:zcells P t=some z) (n:Nat) (c:Array Value) (hc:∀ zv:Value,(∀ w,(zeroValue t).run P w = .ok zv w)→n*z.length≠0→c=(Array.range (n*z.length)).map (zv.cells[· % zv.cells.size]!))
  (j:Nat) (x:AV) (hj:(repeatCells n z)[j]?=some x):VR w phi im x (c.getD j Go.undef):=by
 obtain ⟨zv,hrun,hsz,hval⟩:=zcells_ok hz
 have hlt:j<n*z.length:=by
  rcases Nat.lt_or_ge j (n*z.length) with g|g
  ·exact g
  ·rw [List.getElem?_eq_none (by rw [repeat_length];exact g)] at hj;cases hj
 rw [repeat_get z n j hlt] at hj
 have hzp:0<z.length:=by
  rcases Nat.eq_zero_or_pos z.length with g|g
  ·rw [g] at hlt;simp at hlt
  ·exact g
 rw [hc zv hrun (by omega),zero_array _ _ _ hlt (by omega),hsz]
 exact .imm (hval w im _ x hj)
theorem good_buildSlice {t:TypeId} {len:Nat} {parts:Array (Nat × Operand)} {ao:AOp} {vl:Bool} (ho:o.op = .buildSlice t len parts) (hc:compOp1 P G vl (.buildSlice t len parts)=some ao) (e:ER G w phi im env a.tmps) (s:SR w phi im h)
  (hr:(aop slot env ao).run slot h=some (v,h')):Good P o a w phi im v h':=by
 simp only [compOp1] at hc
 split at hc
 ·rename_i el hu
  split at hc
  ·rename_i sz z hs hz
   split at hc
   ·rename_i hcond
    obtain ⟨h1,h2,h3⟩:=hcond
    simp only [Option.map_eq_some_iff] at hc
    obtain ⟨m,hm,rfl⟩:=hc
    simp only [aop] at hr
    split at hr
    ·rename_i cs hcs
     obtain ⟨zv,hrun,hsz,hval⟩:=zcells_ok hz
     obtain ⟨c',g1,g2,g3,g4⟩:=fillp_ok (c:=(Array.range (len*sz)).map ((if len*sz=0 then #[] else zv.cells)[· % (if len*sz=0 then #[] else zv.cells).size]!)) (compEP_ok e hm) (by simp [repeat_length,h2])
      (fun j x hj=>zeros_ok hz len _ (fun zv' hz' hne=>by
       have hvv:zv'=zv:=by have q1:=hz' w;rw [hrun w] at q1;cases q1;rfl
       subst hvv
       rw [h2] at hne ⊢
       rw [if_neg hne]) j x hj) hcs
     have hle:c'.size=len*sz:=by rw [g2,g3,repeat_length,h2]
     have run:(execOp a.eval o).run P w = .ok (.value (.slice (some ⟨w.heap.size,0,none⟩) len len)) { w with heap:=w.heap.push (.cells c' el) }:=by
      simp only [execOp,ho,Instr.buildSlice,Sem.run_bind,Result.andThen_ok,und_ok hu,tsize_ok hs,map_parts,newRow]
      rw [if_neg (by omega)]
      by_cases hne:len*sz=0
      ·simp only [hne,if_true] at g1 ⊢
       simp only [Sem.run_bind,Sem.run_pure,Result.andThen_ok,g1,run_newObj]
      ·simp only [hne,if_false] at g1 ⊢
       simp only [Sem.run_bind,Sem.run_pure,Result.andThen_ok,hrun,g1,run_newObj]
     split at hr
     ·split at hr
      ·rename_i himm
       cases run_done hr
       refine Good.val s (c:=c') (e:=el) (fz:=(0,0)) c'.size run rfl rfl rfl rfl fun p=>?_
       have key:=cells_new (w:=w) (phi:=phi) (im:=im) (cs:=cs) (c:=c') (n:=c'.size) (e:=el) (fz:=(0,0)) rfl p (Nat.le_refl _) (by omega) g4 himm
       have hcl:(strip.stripL cs).length=len*sz:=by rw [stripL_len];omega
       have hlen:=(chunk_get sz len _ hcl).1
       have:=VR.rows (w:={ w with heap:=w.heap.push (.cells c' el) }) (phi:=phi) (im:=imNew im w.heap.size c'.size) (rows:=chunk sz len (strip.stripL cs)) (cap:= .full) (base:=some ⟨w.heap.size,0,none⟩) (b:=w.heap.size) (o:=0) (sz:=sz) (rcap:=len)
        (fun _=>rfl) (by omega) (RowsAt.chunk hcl fun j x hj=>by rw [Nat.zero_add];exact key j x hj) hlen.symm
       rw [hlen] at this
       exact this
      ·cases hr
     ·obtain ⟨b0,hsl,hf,hk⟩:=run_new hr
      cases run_done hk
      exact Good.new s hsl hf (c:=c') (e:=el) (fz:=(0,0)) run rfl rfl rfl rfl
       (by omega) g4 (fun j _=>by simp) (.ms slot 0 len sz len true w.heap.size 0 0 len el c'.size (by simp [phiAt]) (by simp) (by simp [World.shape?]) (by omega) (Nat.le_refl _) (fun _=>rfl) (Nat.le_refl _))
    ·cases hr
   ·cases hc
  ·cases hc
 ·cases hc
end
end Go.AM
