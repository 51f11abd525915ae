/- The abstract machine: what an operation answers is what the model's operation answers. Sixth part: append, copy, clear, len, comparisons. -/
import Derived.Test.YtfhijkapcdmdnaaGreatDoorAmH
namespace Go.AM
variable {G:GTab}
section
variable {P:Program} {o:Oper} {a:Act} {w:World} {phi:Phi} {im:Imm} {h:Heap} {env:Env} {slot:Nat} {v:AV} {h':Heap}
theorem isInt_false {ut:TypeId} (hut:isIntT P ut=some false):∃ d,P.underlying ut=some d∧∀ k,d ≠ .int k:=by
 cases hd:P.underlying ut with
 | none=>simp [isIntT,hd] at hut
 | some d =>
  refine ⟨d,rfl,fun k hk=>?_⟩
  subst hk
  simp [isIntT,hd] at hut
theorem append_fits {t ut el:TypeId} {sz:Nat} (hu:P.underlying t=some (.slice el)) (hut:isIntT P ut=some false) (hs:tsize P el=some sz)
  {base:Option Addr} {sLen sCap n:Nat} {x:Value} (hlen:(Builtin.lenOf x).run P w = .ok n w) (hfit:sLen+n≤sCap)
  {new:Array Value} (hnew:(Builtin.firstCells sz n x).run P w = .ok new w) {w':World} (hst:∀ ad,base=some ad→(storeCells (ad.add (sLen*sz)) new.toList).run P w = .ok () w') (hnil:base=none→w'=w) (ty:TypeId) :
  (Builtin.append_ #[t,ut] ty #[.slice base sLen sCap,x]).run P w = .ok (.slice base (sLen+n) sCap) w':=by
 obtain ⟨d,hd,hdk⟩:=isInt_false hut
 unfold Builtin.append_
 simp only [List.getElem?_toArray,List.getElem?_cons_zero,List.getElem?_cons_succ,Sem.run_bind,und_ok hu,Result.andThen_ok,tsize_ok hs,und_ok hd,Sem.run_pure]
 rw [if_neg (by cases d<;>first|exact absurd rfl (hdk _)|simp)]
 simp only [hlen,Result.andThen_ok,Sem.run_bind]
 rw [if_pos hfit]
 cases base with
 | none =>
  have:=hnil rfl
  subst this
  simp only [Sem.run_bind]
  rw [if_pos (by cases d<;>first|exact absurd rfl (hdk _)|simp)]
  simp only [hnew,Result.andThen_ok,Sem.run_pure]
 | some ad =>
  simp only [Sem.run_bind]
  rw [if_pos (by cases d<;>first|exact absurd rfl (hdk _)|simp)]
  simp only [hnew,Result.andThen_ok,hst ad rfl,Sem.run_pure]
theorem append_new {t ut el:TypeId} {sz by_:Nat} {z:List AV} {x y:Operand} (ho:o.op = .call ⟨.builtin .append,#[x,y],#[t,ut]⟩) (hu:P.underlying t=some (.slice el)) (hut:isIntT P ut=some false) (hs:tsize P el=some sz) (hb:tbytes P el=some by_) (hz:zcells P el=some z)
  (hzl:z.length=sz) (h1:1≤by_) (s:SR w phi im h) {b0:Blk} (hsl:h[slot]?=some b0) (hf:b0.isFree=true) {base:Option Addr} {sLen sCap n:Nat} (hav:a.eval x = .slice base sLen sCap)
  {yv:AV} (hyv:VR w phi im yv (a.eval y)) (hn:slen yv=some n) (hgrow:sCap<sLen+n) (hroom:roomy (sLen+n) by_=true)
  {olds ys:List AV} (hol:olds.length=sLen*sz) (hyl:ys.length=n*sz)
  (hold:∃ arr:Array Value,(∀ w2:World,w2.heap=w.heap→(Builtin.firstCells sz sLen (.slice base sLen sCap)).run P w2 = .ok arr w2)∧arr.size=sLen*sz∧∀ (j:Nat) c,j<sLen*sz→olds[j]?=some c→VR w phi im c (arr.getD j Go.undef))
  (hnew:∃ arr:Array Value,(∀ w2:World,w2.heap=w.heap→(Builtin.firstCells sz n (a.eval y)).run P w2 = .ok arr w2)∧arr.size=n*sz∧∀ (j:Nat) c,j<n*sz→ys[j]?=some c→VR w phi im c (arr.getD j Go.undef)) :
  Good P o a w phi im (.ms slot 0 (sLen+n) sz (sLen+n) false) (h.set slot (.cells (olds ++ ys))):=by
 obtain ⟨old,g1,g2,g3⟩:=hold
 obtain ⟨new,g4,g5,g6⟩:=hnew
 have hroom':(sLen+n)*by_≤140737488355328:=by simpa [roomy] using hroom
 obtain ⟨c,rcap,r1,r2,r3,r4⟩:=append_grow (P:=P) (w:=w) (ats:=#[t,ut]) rfl hu hut hs hb hz hzl h1 (base:=base) (fun w2=>len_run hyv hn w2) hgrow hroom' g1 g2 g4 g5 o.type
 refine Good.new s hsl hf (w':={ w with heap:=w.heap.push (.cells c el),drawn:=w.drawn+1 }) (c:=c) (e:=el) (fz:=(0,0)) (rv:= .slice (some ⟨w.heap.size,0,none⟩) (sLen+n) rcap) ?_ rfl rfl rfl rfl ?_ (fun j q hj=>?_) (fun j _=>by simp)
  (.ms slot 0 (sLen+n) sz (sLen+n) false w.heap.size 0 0 rcap el c.size (by simp [phiAt]) (by simp) (by simp [World.shape?]) (by omega) r2 (by simp) (Nat.le_refl _))
 ·rw [exec_builtin ho]
  simp only [builtin,List.map_toArray,List.map_cons,List.map_nil,hav,Sem.run_bind,r1,Result.andThen_ok,Sem.run_pure]
 ·simp only [List.length_append,hol,hyl,r3,← Nat.add_mul]
  exact Nat.mul_le_mul_right _ r2
 ·have hlt:=set_lt hj
  simp only [List.length_append,hol,hyl] at hlt
  rw [r4 j (by rw [Nat.add_mul];exact hlt)]
  by_cases c1:j<sLen*sz
  ·rw [if_pos c1]
   rw [List.getElem?_append_left (by omega)] at hj
   exact g3 j q c1 hj
  ·rw [if_neg c1]
   rw [List.getElem?_append_right (by omega),hol] at hj
   exact g6 _ q (by omega) hj
theorem chunk_flatten {sz:Nat}:∀ {rows:List (List AV)},(∀ row ∈ rows,row.length=sz)→chunk sz rows.length rows.flatten=rows:=by
 intro rows
 induction rows with
 | nil=>intro _;rfl
 | cons r t ih =>
  intro h
  have hr:r.length=sz:=h r (by simp)
  simp only [List.length_cons,chunk,List.flatten_cons]
  rw [List.take_append_of_le_length (by omega),List.take_of_length_le (by omega),List.drop_append_of_le_length (by omega),List.drop_of_length_le (by omega),List.nil_append,ih fun row hrow=>h row (by simp [hrow])]
theorem append_val {t ut el:TypeId} {sz by_:Nat} {z:List AV} {x y:Operand} (ho:o.op = .call ⟨.builtin .append,#[x,y],#[t,ut]⟩) (hu:P.underlying t=some (.slice el)) (hut:isIntT P ut=some false) (hs:tsize P el=some sz) (hb:tbytes P el=some by_) (hz:zcells P el=some z)
  (hzl:z.length=sz) (h1:1≤by_) (s:SR w phi im h) {b0:Blk} (hsl:h[slot]?=some b0) (hf:b0.isFree=true) {rows:List (List AV)} {base:Option Addr} {b ob sCap n:Nat} (hav:a.eval x = .slice base rows.length sCap)
  (hbb:0<sCap→base=some ⟨b,ob,none⟩) (hle:rows.length≤sCap) (hrows:RowsAt w im rows b ob sz)
  {yv:AV} (hyv:VR w phi im yv (a.eval y)) (hn:slen yv=some n) (hgrow:sCap<rows.length+n) (hroom:roomy (rows.length+n) by_=true)
  {ys:List AV} (hyl:ys.length=n*sz) (hyi:imm.immL ys=true)
  (hnew:∃ arr:Array Value,(∀ w2:World,w2.heap=w.heap→(Builtin.firstCells sz n (a.eval y)).run P w2 = .ok arr w2)∧arr.size=n*sz∧∀ (j:Nat) c,j<n*sz→ys[j]?=some c→VR w phi im c (arr.getD j Go.undef)) :
  Good P o a w phi im (.is (rows ++ chunk sz n (strip.stripL ys)) (.tok slot sz)) (h.set slot .tok):=by
 obtain ⟨old,g1,g2,g3⟩:=rows_cells (P:=P) hbb hle hrows (Nat.le_refl rows.length)
 obtain ⟨new,g4,g5,g6⟩:=hnew
 have hroom':(rows.length+n)*by_≤140737488355328:=by simpa [roomy] using hroom
 obtain ⟨c,rcap,r1,r2,r3,r4⟩:=append_grow (P:=P) (w:=w) (ats:=#[t,ut]) rfl hu hut hs hb hz hzl h1 (base:=base) (fun w2=>len_run hyv hn w2) hgrow hroom' g1 g2 g4 g5 o.type
 have hmul:(rows.length+n)*sz≤rcap*sz:=Nat.mul_le_mul_right _ r2
 have e1:(rows.length+n)*sz=rows.length*sz+n*sz:=Nat.add_mul _ _ _
 have hcl:(strip.stripL ys).length=n*sz:=by rw [stripL_len];exact hyl
 have hlen:(rows ++ chunk sz n (strip.stripL ys)).length=rows.length+n:=by rw [List.length_append,(chunk_get sz n _ hcl).1]
 refine Good.tok s hsl hf (w':={ w with heap:=w.heap.push (.cells c el),drawn:=w.drawn+1 }) (c:=c) (e:=el) (fz:=(0,0)) (rv:= .slice (some ⟨w.heap.size,0,none⟩) (rows.length+n) rcap) ((rows.length+n)*sz) ?_ rfl rfl rfl rfl (fun j _=>by simp) fun p0 p=>?_
 ·rw [exec_builtin ho]
  simp only [builtin,List.map_toArray,List.map_cons,List.map_nil,hav,Sem.run_bind,r1,Result.andThen_ok,Sem.run_pure]
 ·have hcellp:∀ j,j<c.size→World.cell? { w with heap:=w.heap.push (.cells c el),drawn:=w.drawn+1 } ⟨w.heap.size,j,none⟩=some (c.getD j Go.undef):=fun j hj=>cell_push rfl hj
  generalize hw':({ w with heap:=w.heap.push (.cells c el),drawn:=w.drawn+1 }:World)=w' at *
  have p1:RowsAt w' (imNew im w.heap.size ((rows.length+n)*sz)) (chunk sz rows.length rows.flatten) w.heap.size 0 sz:=RowsAt.chunk (flat_len hrows.1) fun j q hj=>by
   have hlt:=set_lt hj
   rw [flat_len hrows.1] at hlt
   refine ⟨.inr ⟨rfl,by omega⟩,_,hcellp (0+j) (by omega),?_⟩
   rw [Nat.zero_add,r4 j (by omega),if_pos hlt]
   exact (g3 j q hlt hj).mono p0.imkeep p0.imext
  rw [chunk_flatten hrows.1] at p1
  have p2:RowsAt w' (imNew im w.heap.size ((rows.length+n)*sz)) (chunk sz n (strip.stripL ys)) w.heap.size (0+rows.length*sz) sz:=RowsAt.chunk hcl fun j q hj=>by
   have hlt:=set_lt hj
   rw [hcl] at hlt
   obtain ⟨q',hq',rfl⟩:=stripL_get hj
   refine ⟨.inr ⟨rfl,by omega⟩,_,hcellp _ (by omega),?_⟩
   rw [r4 _ (by omega),if_neg (by omega),show 0+rows.length*sz+j - rows.length*sz=j by omega]
   exact ((g6 j q' hlt hq').to_imm (immL_spec hyi j q' hq')).mono p0.imkeep p0.imext
  have:=VR.rows (w:=w') (phi:=phiAt phi slot w.heap.size ((rows.length+n)*sz)) (cap:= .tok slot sz) (base:=some ⟨w.heap.size,0,none⟩) (rcap:=rcap) (fun _=>rfl) (by omega) (p1.append p2)
   ⟨rfl,by rw [hlen,Nat.zero_add];exact phiAt_self ..,el,c.size,by rw [← hw'];simp [World.shape?],by omega⟩
  rw [hlen] at this
  exact this
theorem all_sc {xs:List AV} {vs:Array Value} (hn:vs.size=xs.length) (hv:∀ (i:Nat) y,i<xs.length→xs[i]?=some y→VR w phi im y (vs.getD i Go.undef)) (hs:xs.all isSc=true):∀ u ∈ vs.toList,u.oneCell'=true :=
 sc_list hn (fun i y hy=>hv i y (set_lt hy) hy) hs
theorem append_tok {t ut el:TypeId} {sz by_:Nat} {z:List AV} {x y:Operand} (ho:o.op = .call ⟨.builtin .append,#[x,y],#[t,ut]⟩) (hu:P.underlying t=some (.slice el)) (hut:isIntT P ut=some false) (hs:tsize P el=some sz) (hb:tbytes P el=some by_) (hz:zcells P el=some z)
  (hzl:z.length=sz) (h1:1≤by_) (s:SR w phi im h) {id:Nat} (hid:h[id]?=some .tok) {b0:Blk} (hsl:(h.set id .dead)[slot]?=some b0) (hf:b0.isFree=true) {rows:List (List AV)} {base:Option Addr} {b ob sCap n:Nat} (hav:a.eval x = .slice base rows.length sCap)
  (hbb:0<sCap→base=some ⟨b,ob,none⟩) (hle:rows.length≤sCap) (hrows:RowsAt w im rows b ob sz) (hroomy:Room w phi rows base b ob sz sCap (.tok id sz))
  {yv:AV} (hyv:VR w phi im yv (a.eval y)) (hn:slen yv=some n) (hn0:n≠0) (hroom:roomy (rows.length+n) by_=true)
  {ys:List AV} (hyl:ys.length=n*sz) (hyi:imm.immL ys=true) (hys:ys.all isSc=true)
  (hnew:∃ arr:Array Value,(∀ w2:World,w2.heap=w.heap→(Builtin.firstCells sz n (a.eval y)).run P w2 = .ok arr w2)∧arr.size=n*sz∧∀ (j:Nat) c,j<n*sz→ys[j]?=some c→VR w phi im c (arr.getD j Go.undef)) :
  Good P o a w phi im (.is (rows ++ chunk sz n (strip.stripL ys)) (.tok slot sz)) ((h.set id .dead).set slot .tok):=by
 have s1:=s.kill hid
 by_cases hfit:rows.length+n≤sCap
 ·obtain ⟨new,g4,g5,g6⟩:=hnew
  obtain ⟨_,hp,el',nn,hsh,hnn⟩:=hroomy
  obtain ⟨b',t',c,e2,fz,q1,q2,q3,q4⟩:=s.tok id hid
  rw [hp] at q1
  cases q1
  have hbase:=hbb (by omega)
  subst hbase
  have hsz:c.size=nn:=by
   simp only [World.shape?,q2,Option.some.injEq,Prod.mk.injEq] at hsh
   exact hsh.2
  have hmul:(rows.length+n)*sz≤sCap*sz:=Nat.mul_le_mul_right _ hfit
  rw [Nat.add_mul] at hmul
  have hnsc:∀ u ∈ new.toList,u.oneCell'=true:=sc_list (w:=w) (phi:=phi) (im:=im) (xs:=ys) (by omega) (fun i y hy=>g6 i y (by have:=set_lt hy;omega) hy) hys
  obtain ⟨c',hw,hg⟩:=setCells_heap b new.toList (ob+rows.length*sz) w c e2 fz q2 (by simp;omega)
  have r1:(storeCells ⟨b,ob+rows.length*sz,none⟩ new.toList).run P w = .ok () (w.setCells b (ob+rows.length*sz) new.toList):=by
   have:=run_storeCells_cells (P:=P) b (ob+rows.length*sz) new.toList 0 w (fun j hj=>by
    have hj':j<new.size:=by simpa using hj
    have hlt:ob+rows.length*sz+j<c.size:=by omega
    simp [World.cell?,q2,hlt]) (fun j hj=>by
    have hj':j<new.size:=by simpa using hj
    have hlt:ob+rows.length*sz+j<c.size:=by omega
    have:=q3 _ hlt
    simp only [World.frozen?,q2,Nat.add_zero]
    simpa using this) hnsc
   simpa using this
  have hrun:=append_fits (P:=P) (w:=w) hu hut hs (base:=some ⟨b,ob,none⟩) (sLen:=rows.length) (sCap:=sCap) (n:=n) (x:=a.eval y) (len_run hyv hn w) hfit (g4 w rfl)
   (w':=w.setCells b (ob+rows.length*sz) new.toList) (fun ad had=>by cases had;rw [add_off];exact r1) (fun hno=>by cases hno) o.type
  generalize w.setCells b (ob+rows.length*sz) new.toList=w' at hw hrun
  have hcell:∀ o,o<c.size→w'.cell? ⟨b,o,none⟩=some (c'.getD o Go.undef):=fun o ho=>by
   have:o<c'.size:=by rw [hw.len];exact ho
   simp [World.cell?,hw.now,Array.getD_eq_getD_getElem?,this]
  have himg:img phi b:=⟨id,_,hp,rfl⟩
  obtain ⟨p1,t1⟩:=s1.turn (b:=b) hw.os hw.tape hw.output hw.size hw.other (fun t ht=>hw.shape b t ht) (fun o ho=>by
   have hlt:o<ob+rows.length*sz:=Nat.lt_of_not_le fun hle=>q4 o hle ho
   rw [hcell o (by omega),hg,if_neg (by omega)]
   have:o<c.size:=by omega
   simp [World.cell?,q2,Array.getD_eq_getD_getElem?,this]) himg (fun k o=>im k o∨(k=b∧ob+rows.length*sz≤o∧o<ob+rows.length*sz+n*sz)) (fun _ _ h => .inl h) (fun _ _ h=>h.imp (fun h=>h) fun q=>q.1)
  have hl:∀ i q,live (h.set id .dead) i→phi i=some q→q.1≠b:=s.alone ⟨_,hid,.inr (.inr rfl)⟩ hp
  have s2:=t1 hl
  have hno:=s1.free_none hsl hf
  have s3:=s2.take hsl hf (b:=b) (sh:=ob+(rows.length+n)*sz) (k:= .tok) ⟨c',e2,fz,hw.now,fun j hj=>q3 j (by rw [← hw.len];exact hj),fun o ho hi=>by
   rw [Nat.add_mul] at ho
   rcases hi with hi|⟨_,_,hi⟩
   ·exact q4 o (by omega) hi
   ·omega⟩ (by rw [hw.size];exact s.lt id _ hp) hl
  have p2:=p1.take (slot:=slot) (b:=b) (sh:=ob+(rows.length+n)*sz) hno (.inl himg)
  have hcl:(strip.stripL ys).length=n*sz:=by rw [stripL_len];exact hyl
  have hlen:(rows ++ chunk sz n (strip.stripL ys)).length=rows.length+n:=by rw [List.length_append,(chunk_get sz n _ hcl).1]
  have k1:=hrows.mono p1.imkeep p1.imext
  have k2:RowsAt w' (fun k o=>im k o∨(k=b∧ob+rows.length*sz≤o∧o<ob+rows.length*sz+n*sz)) (chunk sz n (strip.stripL ys)) b (ob+rows.length*sz) sz:=RowsAt.chunk hcl fun j q hj=>by
   have hlt:=set_lt hj
   rw [hcl] at hlt
   obtain ⟨q',hq',rfl⟩:=stripL_get hj
   refine ⟨.inr ⟨rfl,by omega,by omega⟩,_,hcell _ (by omega),?_⟩
   rw [hg,if_pos (by simp;omega),show ob+rows.length*sz+j - (ob+rows.length*sz)=j by omega]
   have:=g6 j q' hlt hq'
   have e3:new.toList.getD j Go.undef=new.getD j Go.undef:=by simp [Array.getD_eq_getD_getElem?]
   rw [e3]
   exact (this.to_imm (immL_spec hyi j q' hq')).mono p1.imkeep p1.imext
  have:=VR.rows (w:=w') (phi:=phiAt phi slot b (ob+(rows.length+n)*sz)) (cap:= .tok slot sz) (base:=some ⟨b,ob,none⟩) (rcap:=sCap) (fun _=>rfl) (by omega) (k1.append k2)
   ⟨rfl,by rw [hlen];exact phiAt_self ..,el',nn,p1.shape _ _ hsh,hnn⟩
  rw [hlen] at this
  refine ⟨_,_,w',_,_,?_,.inl rfl,this,s3,p2⟩
  rw [exec_builtin ho]
  simp only [builtin,List.map_toArray,List.map_cons,List.map_nil,hav,Sem.run_bind,hrun,Result.andThen_ok,Sem.run_pure]
 ·exact append_val ho hu hut hs hb hz hzl h1 s1 hsl hf hav hbb hle hrows hyv hn (by omega) hroom hyl hyi hnew
theorem tight_full {rows:List (List AV)} {base:Option Addr} {b o sz rcap:Nat} {cap:Cap} (hl:rows.length≤rcap) (h:Room w phi rows base b o sz rcap cap) (ht:cap.tight=true):rcap=rows.length:=by
 cases cap with
 | nil=>obtain ⟨_,q⟩:=h;omega
 | full=>exact h
 | _=>cases ht
theorem good_append {t ut el:TypeId} {sz by_:Nat} {z:List AV} {x y:Operand} {p q:AO} {vl:Bool} (ho:o.op = .call ⟨.builtin .append,#[x,y],#[t,ut]⟩) (hu:P.underlying t=some (.slice el)) (hut:isIntT P ut=some false) (hs:tsize P el=some sz) (hb:tbytes P el=some by_) (hz:zcells P el=some z)
  (hzl:z.length=sz) (h0:1≤sz) (h1:1≤by_) (hx:compO G x=some p) (hy:compO G y=some q) (e:ER G w phi im env a.tmps) (s:SR w phi im h)
  (hr:(aop slot env (.append vl sz by_ p q)).run slot h=some (v,h')):Good P o a w phi im v h':=by
 have hvx:=compO_ok e hx
 have hvy:=compO_ok e hy
 have run0:∀ {base:Option Addr} {l c n:Nat} {w2:World},a.eval x = .slice base l c→(Builtin.append_ #[t,ut] o.type #[.slice base l c,a.eval y]).run P w = .ok (.slice base n c) w2 →
   (execOp a.eval o).run P w = .ok (.value (.slice base n c)) w2:=fun hav hrun=>by
  rw [exec_builtin ho]
  simp only [builtin,List.map_toArray,List.map_cons,List.map_nil,hav,Sem.run_bind,hrun,Result.andThen_ok,Sem.run_pure]
 simp only [aop] at hr
 split at hr
 ·cases hr
 ·rename_i n hn
  split at hr
  ·cases hr
  ·rename_i hss
   have hss:ssz sz (ev env q)=true:=by simpa using hss
   have zero:∀ {base:Option Addr} {l c:Nat} {xv:AV},a.eval x = .slice base l c→l≤c→n=0→VR w phi im xv (a.eval x)→Good P o a w phi im xv h:=fun {base l c xv} hav hlc h0 hxv=>by
    subst h0
    have:=append_fits (P:=P) (w:=w) hu hut hs (base:=base) (sLen:=l) (sCap:=c) (n:=0) (x:=a.eval y) (len_run hvy hn w) (by omega) (new:=#[]) (first_zero hvy hn sz w) (w':=w) (fun ad _=>rfl) (fun _=>rfl) o.type
    exact .here s (run0 hav this) (by rw [hav] at hxv;exact hxv)
   split at hr
   ·rename_i rows cap hq
    rw [hq] at hvx
    obtain ⟨base,b,ob,s2,rcap,hav,hbb,hl,hrows,hrm⟩:=hvx.rows_inv
    split at hr
    ·rename_i hn0
     cases run_done hr
     exact zero hav hl hn0 hvx
    ·rename_i hn0
     split at hr
     ·cases hr
     ·rename_i hroom
      have hroom:roomy (rows.length+n) by_=true:=by simpa using hroom
      obtain ⟨ys,hk,hyl,hnew⟩:=scells_ok (P:=P) hvy s hss hn hr
      split at hk
      ·split at hk
       ·cases hk
       ·rename_i hcond
        have hcond:imm.immL ys=true∧ys.all isSc=true:=by simpa using hcond
        split at hk
        ·split at hk
         ·cases hk
         ·rename_i id sx hsx
          have hsx:sx=sz:=by simpa using hsx
          subst hsx
          obtain ⟨blk,hid,_,hk2⟩:=run_rd hk
          split at hk2
          ·obtain ⟨b1,hb1,_,hk3⟩:=run_wr hk2
           obtain ⟨b0,hsl,hf,hk4⟩:=run_new hk3
           cases run_done hk4
           have hs2:sx=s2:=hrm.1
           subst hs2
           exact append_tok ho hu hut hs hb hz hzl h1 s hid hsl hf hav hbb hl hrows hrm hvy hn hn0 hroom hyl hcond.1 hcond.2 (hnew n (Nat.le_refl _))
          ·cases hk2
        ·rename_i hnt
         split at hk
         ·cases hk
         ·rename_i hrs
          have hrs:cap.tight=true∧rowsz sz rows=true:=by simpa using hrs
          obtain ⟨b0,hsl,hf,hk2⟩:=run_new hk
          cases run_done hk2
          have hfull:=tight_full hl hrm hrs.1
          rcases rows_sz hrows hrs.2 with rfl|rfl
          ·exact append_val (rows:=[]) (b:=b) (ob:=ob) ho hu hut hs hb hz hzl h1 s hsl hf hav hbb hl RowsAt.nil hvy hn (by simp at hfull ⊢;omega) hroom hyl hcond.1 (hnew n (Nat.le_refl _))
          ·exact append_val ho hu hut hs hb hz hzl h1 s hsl hf hav hbb hl hrows hvy hn (by omega) hroom hyl hcond.1 (hnew n (Nat.le_refl _))
      ·split at hk
       ·cases hk
       ·rename_i hrs
        have hrs:cap.tight=true∧rowsz sz rows=true:=by simpa using hrs
        obtain ⟨b0,hsl,hf,hk2⟩:=run_new hk
        cases run_done hk2
        have hfull:=tight_full hl hrm hrs.1
        rcases rows_sz hrows hrs.2 with rfl|rfl
        ·have:=append_new (slot:=slot) ho hu hut hs hb hz hzl h1 s hsl hf hav hvy hn (by simp at hfull ⊢;omega) hroom (olds:=[]) (ys:=ys) (by simp) hyl ⟨#[],fun w2 _=>by cases base<;>simp [Builtin.firstCells,loadCells,loadCellsFrom],by simp,fun j c hj _=>by simp at hj⟩ (hnew n (Nat.le_refl _))
         simpa using this
        ·obtain ⟨arr,k1,k2,k3⟩:=rows_cells (P:=P) hbb hl hrows (Nat.le_refl rows.length)
         exact append_new (slot:=slot) ho hu hut hs hb hz hzl h1 s hsl hf hav hvy hn (by omega) hroom (flat_len hrows.1) hyl ⟨arr,k1,k2,fun j c hj hc => .imm (k3 j c hj hc)⟩ (hnew n (Nat.le_refl _))
   ·rename_i id off len s2 cap ex hq
    rw [hq] at hvx
    obtain ⟨b,sh,ob,rcap,el',nn,hav,hp,hoff,hsh,hnn,hcap,hx',hl⟩:=hvx.ms_inv
    split at hr
    ·rename_i hn0
     cases run_done hr
     exact zero hav (by omega) hn0 hvx
    ·rename_i hn0
     split at hr
     ·cases hr
     ·rename_i hcond
      have hcond:s2=sz∧roomy (len+n) by_=true:=by simpa using hcond
      obtain ⟨c2,c3⟩:=hcond
      subst c2
      obtain ⟨ys,hk,hyl,hnew⟩:=scells_ok (P:=P) hvy s hss hn hr
      obtain ⟨new,hn1,hn2,hn3⟩:=hnew n (Nat.le_refl _)
      split at hk
      ·cases hk
      ·rename_i hsc
       have hsc:ys.all isSc=true:=by simpa using hsc
       obtain ⟨blk,hb2,hfree,hk2⟩:=run_rd hk
       split at hk2
       ·rename_i cs
        have hnsc:∀ u ∈ new.toList,u.oneCell'=true:=all_sc (w:=w) (phi:=phi) (im:=im) (by omega) (fun i y hi hy=>hn3 i y (by omega) hy) hsc
        have hnv:∀ (j:Nat) y,ys[j]?=some y→VR w phi im y (new.toList.getD j Go.undef):=fun j y hy=>by
         have:=hn3 j y (by have:=set_lt hy;omega) hy
         simpa [Array.getD_eq_getD_getElem?] using this
        split at hk2
        ·cases hk2
        ·rename_i hle
         have hle:off+len*s2≤cs.length:=by simpa using hle
         split at hk2
         ·rename_i hfit
          split at hk2
          ·rename_i hroom
           obtain ⟨b1,hb1,_,hk3⟩:=run_wr hk2
           cases run_done hk3
           have ho':=hoff (by omega)
           subst ho'
           obtain ⟨r1,r2,r3⟩:=s.stored (P:=P) hb2 hp (off:=off+len*s2) (xs:=ys) (vs:=new.toList) (by simpa using (by omega:new.size=ys.length)) (by omega) hnv hnsc
           have hrun:=append_fits (P:=P) (w:=w) hu hut hs (base:=some ⟨b,sh+off,none⟩) (sLen:=len) (sCap:=rcap) (n:=n) (x:=a.eval y) (len_run hvy hn w) (by omega) (hn1 w rfl)
            (w':=w.setCells b (sh+(off+len*s2)) new.toList) (fun ad had=>by cases had;rw [add_off,Nat.add_assoc];exact r1) (fun hno=>by cases hno) o.type
           refine ⟨_,_,_,phi,im,run0 hav hrun,.inl rfl,?_,r2,r3⟩
           exact .ms id off (len+n) s2 cap ex b sh _ rcap el' nn hp (fun _=>rfl) (r3.shape _ _ hsh) hnn hcap hx' hfit
          ·cases hk2
         ·rename_i hnfit
          have hcl:((cs.drop off).take (len*s2)).length=len*s2:=by simp;omega
          have hold:∃ arr:Array Value,(∀ w2:World,w2.heap=w.heap→(Builtin.firstCells s2 len (.slice (some ⟨b,ob,none⟩) len rcap)).run P w2 = .ok arr w2)∧arr.size=len*s2 ∧
            ∀ (j:Nat) c,j<len*s2→((cs.drop off).take (len*s2))[j]?=some c→VR w phi im c (arr.getD j Go.undef):=by
           obtain ⟨cs',hk3,hcl',hold⟩:=scells_ok (P:=P) (slot:=slot) (k:=fun cs => .done (.agg cs)) (n:=len) (sz:=s2) (hav ▸ hvx) s (by simp [ssz]) rfl (r:=(.agg ((cs.drop off).take (len*s2)),h)) (by simp [scells,HC.run,hb2,Blk.isFree,hle])
           have hcs:cs'=(cs.drop off).take (len*s2):=by
            simp only [HC.run,Option.some.injEq,Prod.mk.injEq,AV.agg.injEq,and_true] at hk3;exact hk3
           subst hcs
           exact hold _ (Nat.le_refl _)
          split at hk2
          ·rename_i hex
           obtain ⟨b0,hsl,hf,hk3⟩:=run_new hk2
           cases run_done hk3
           exact append_new (slot:=slot) ho hu hut hs hb hz hzl h1 s hsl hf hav hvy hn (by have:=hx' hex;omega) c3 hcl hyl hold ⟨new,hn1,hn2,hn3⟩
          ·rename_i hnex
           obtain ⟨b1,hb1,_,hk3⟩:=run_wr hk2
           obtain ⟨b0,hsl,hf,hk4⟩:=run_new hk3
           cases run_done hk4
           have s2':=s.kill hb2
           by_cases hfit:len+n≤rcap
           ·-- it is written in place
            have ho':=hoff (by omega)
            subst ho'
            obtain ⟨bb,shh,c,e2,fz,q1,q2,q3,q4,q5,q6⟩:=s.cells id cs hb2
            rw [hp] at q1
            cases q1
            have hsz:c.size=nn:=by
             simp only [World.shape?,q2,Option.some.injEq,Prod.mk.injEq] at hsh
             exact hsh.2
            have hmul:(len+n)*s2≤rcap*s2:=Nat.mul_le_mul_right _ hfit
            rw [Nat.add_mul] at hmul
            obtain ⟨c',hw,hg⟩:=setCells_heap b new.toList (sh+off+len*s2) w c e2 fz q2 (by simp;omega)
            have r1:(storeCells ⟨b,sh+off+len*s2,none⟩ new.toList).run P w = .ok () (w.setCells b (sh+off+len*s2) new.toList):=by
             have:=run_storeCells_cells (P:=P) b (sh+off+len*s2) new.toList 0 w (fun j hj=>by
              have hj':j<new.size:=by simpa using hj
              have hlt:sh+off+len*s2+j<c.size:=by omega
              simp [World.cell?,q2,hlt]) (fun j hj=>by
              have hj':j<new.size:=by simpa using hj
              have hlt:sh+off+len*s2+j<c.size:=by omega
              have:=q5 _ hlt
              simp only [World.frozen?,q2,Nat.add_zero]
              simpa using this) hnsc
             simpa using this
            have hrun:=append_fits (P:=P) (w:=w) hu hut hs (base:=some ⟨b,sh+off,none⟩) (sLen:=len) (sCap:=rcap) (n:=n) (x:=a.eval y) (len_run hvy hn w) hfit (hn1 w rfl)
             (w':=w.setCells b (sh+off+len*s2) new.toList) (fun ad had=>by cases had;rw [add_off];exact r1) (fun hno=>by cases hno) o.type
            have himg:img phi b:=⟨id,_,hp,rfl⟩
            generalize w.setCells b (sh+off+len*s2) new.toList=w' at hw hrun
            have hlv:live h id:=⟨_,hb2,.inl ⟨_,rfl⟩⟩
            obtain ⟨p1,t1⟩:=s2'.turn (b:=b) hw.os hw.tape hw.output hw.size hw.other (fun t ht=>hw.shape b t ht) (fun o ho=>by
             have hlt:o<sh:=Nat.lt_of_not_le fun hle=>q6 o hle ho
             have hoc:o<c.size:=by omega
             have hoc':o<c'.size:=by rw [hw.len];exact hoc
             have:=hg o
             rw [if_neg (by omega)] at this
             simp only [Array.getD_eq_getD_getElem?,Array.getElem?_eq_getElem hoc,Array.getElem?_eq_getElem hoc',Option.getD_some] at this
             simp [World.cell?,hw.now,q2,hoc,hoc',this]) himg im (fun _ _ h=>h) fun _ _ h => .inl h
            have hl2:∀ i q,live (h.set id .dead) i→phi i=some q→q.1≠b:=s.alone hlv hp
            have s3:=t1 hl2
            have hno:=s2'.free_none hsl hf
            have t1:=s3.take hsl hf (b:=b) (sh:=sh+off) (k:= .cells ((cs.drop off).take (len*s2) ++ ys)) ⟨c',e2,fz,hw.now,by rw [hw.len];simp only [List.length_append,hcl];omega,fun j y hj=>p1.mono (by
              rw [hg]
              by_cases c1:j<len*s2
              ·rw [List.getElem?_append_left (by omega),List.getElem?_take_of_lt c1,List.getElem?_drop] at hj
               rw [if_neg (by omega),Nat.add_assoc]
               exact q4 _ y hj
              ·rw [List.getElem?_append_right (by omega),hcl] at hj
               have hlt:=set_lt hj
               rw [if_pos (by simp;omega),show sh+off+j - (sh+off+len*s2)=j - len*s2 by omega]
               exact hnv _ y hj),fun j hj=>q5 j (by rw [← hw.len];exact hj),fun o ho=>q6 o (by omega)⟩ (by rw [hw.size];exact s.lt id _ hp) hl2
            have t2:=p1.take (slot:=slot) (b:=b) (sh:=sh+off) hno (.inl himg)
            refine ⟨_,_,_,_,_,run0 hav hrun,.inl rfl,?_,t1,t2⟩
            exact .ms slot 0 (len+n) s2 (len+n) false b (sh+off) _ rcap el' nn (phiAt_self ..) (fun _=>rfl) (t2.shape _ _ hsh) hnn hfit (by simp) (Nat.le_refl _)
           ·exact append_new (slot:=slot) ho hu hut hs hb hz hzl h1 s2' hsl hf hav hvy hn (by omega) c3 hcl hyl hold ⟨new,hn1,hn2,hn3⟩
       ·cases hk2
   ·cases hr
end
end Go.AM
