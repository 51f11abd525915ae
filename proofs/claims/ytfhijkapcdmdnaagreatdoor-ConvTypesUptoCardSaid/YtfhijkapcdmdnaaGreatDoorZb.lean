/- The table of rows; the reference: words, tags, members. -/
import Derived.Test.YtfhijkapcdmdnaaGreatDoorZa
import Derived.Test.YtfhijkapcdmdnaaGreatDoorAmW
namespace Go.Proofs.YtfhijkapcdmdnaaGreatDoor
open Go.AM
set_option maxRecDepth 20000
set_option maxHeartbeats 4000000
set_option linter.unusedSimpArgs false
set_option linter.unusedVariables false
set_option maxHeartbeats 4000000
theorem from_basic (H Z:Heap) (A:List (List AV)) (c0:Cap) (i r n:Nat) (M cp:AV) (cs:List AV) (hA:A.length≤1048576) (hi:i<11) (hg:A[i]?=some [.int .i64 ((i:Int)+1),.int .i64 0,.int .i64 0,.str [],.is [] .no,.bool false])
  (h1:Z[1]?=some (.cells [.ms (H.length+r) 0 n 6 n false,M])) (hrz:Z[r]?=some (.cells cs)) (hn:i<n) (hk:cs[i*6]?=some (.int .i64 ((i:Int)+1))) :
  Brun tab 172 f33l6 (ofL [(0,.is A c0),(4,.mp (H.length+1) 0),(5,.int .i64 11),(30,.is A c0),(31,.int .i64 A.length),(32,.int .i64 i)]) (H ++ Z) =
   some (.normal,ofL [(0,.is A c0),(4,.mp (H.length+1) 0),(5,.int .i64 11),(30,.is A c0),(31,.int .i64 A.length),(32,.int .i64 (i+1))],H ++ (Z ++ [.cells [.int .i64 ((i:Int)+1),.int .i64 0,.int .i64 0,.str [],.is [] .no,.bool false]])):=by
 have l1:=(List.getElem?_eq_some_iff.1 h1).1
 have lr:=(List.getElem?_eq_some_iff.1 hrz).1
 have la:=(List.getElem?_eq_some_iff.1 hg).1
 have g1:∀ x,(Z ++ x)[1]?=some (.cells [.ms (H.length+r) 0 n 6 n false,M]):=fun x=>by rw [List.getElem?_append_left l1];exact h1
 have g1':∀ x (hh:1<(Z ++ x).length),(Z ++ x)[1]'hh = .cells [.ms (H.length+r) 0 n 6 n false,M]:=fun x hh=>(List.getElem?_eq_some_iff.1 (g1 x)).2
 have gr:∀ x,(Z ++ x)[r]?=some (.cells cs):=fun x=>by rw [List.getElem?_append_left lr];exact hrz
 have e3:¬ (A.length:Int)≤i:=by omega
 have e4:¬ (11:Int)≤i:=by omega
 have hni:(i:Int)<n:=by omega
 have hw:=cw64 i (by omega)
 clear h1 hrz hA hi l1 lr la
 repeat (any_goals first|simp -dsimp (maxSteps:=4000000) (maxDischargeDepth:=8) -implicitDefEqProofs [*,-Int.not_le,-Int.not_lt,amLt,ap4]|with_reducible (first|apply cB|apply iB)<;>intro _|intro _)
theorem r11_told (H Z:Heap) (x0 x5 x6 x30 x31 x32 x39:AV) (w:TR) (r n:Nat) (M:AV) (cs:List AV) (hn:n≤600) (hr1:r≠1) (hml:w.mem.length≤16777216)
  (h1:Z[1]?=some (.cells [.ms (H.length+r) 0 n 6 n false,M])) (hrz:Z[r]?=some (.cells cs)) (hcs:cs.length=n*6) :
  Brun tab 172 (.region true f33r11 [0,4,5,6,7,30,31,32] 2) (ofL [(0,x0),(4,.mp (H.length+1) 0),(5,x5),(6,x6),(7,.mp (H.length+Z.length) 0),(30,x30),(31,x31),(32,x32),(39,x39)]) (H ++ (Z ++ [.cells (trow w)])) =
  some (.normal,ofL [(0,x0),(4,.mp (H.length+1) 0),(5,x5),(6,x6),(7,.mp (H.length+Z.length) 0),(30,x30),(31,x31),(32,x32)],
   H ++ ((Z.set r .dead).set 1 (.cells [.ms (H.length+(Z.length+2)) 0 (n+1) 6 (n+1) false,M]) ++ [.cells (trow w),.cells (trow { w with cap:= .no }),.cells (cs ++ trow { w with cap:= .no })])):=by
 have l1:=(List.getElem?_eq_some_iff.1 h1).1
 have lr:=(List.getElem?_eq_some_iff.1 hrz).1
 have g1:∀ x,(Z ++ x)[1]?=some (.cells [.ms (H.length+r) 0 n 6 n false,M]):=fun x=>by rw [List.getElem?_append_left l1];exact h1
 have g1':∀ x (hh:1<(Z ++ x).length),(Z ++ x)[1]'hh = .cells [.ms (H.length+r) 0 n 6 n false,M]:=fun x hh=>(List.getElem?_eq_some_iff.1 (g1 x)).2
 have gr:∀ x,(Z ++ x)[r]?=some (.cells cs):=fun x=>by rw [List.getElem?_append_left lr];exact hrz
 have s1:∀ x b,(Z ++ x).set r b=Z.set r b ++ x:=fun x b=>by rw [List.set_append_left _ _ lr]
 have g2:∀ x,(Z.set r .dead ++ x)[1]?=some (.cells [.ms (H.length+r) 0 n 6 n false,M]):=fun x=>by
  rw [List.getElem?_append_left (by rw [List.length_set];exact l1),List.getElem?_set_ne hr1];exact h1
 have g2':∀ x (hh:1<(Z.set r .dead ++ x).length),(Z.set r .dead ++ x)[1]'hh = .cells [.ms (H.length+r) 0 n 6 n false,M]:=fun x hh=>(List.getElem?_eq_some_iff.1 (g2 x)).2
 have s2:∀ x b,(Z.set r .dead ++ x).set 1 b=(Z.set r .dead).set 1 b ++ x:=fun x b=>by rw [List.set_append_left _ _ (by rw [List.length_set];exact l1)]
 have hl:(Z.set r Blk.dead).length=Z.length:=List.length_set ..
 have hroom:roomy (n+1) 72=true:=roomy_sm (by omega) (by decide)
 have htk:cs.take (n*6)=cs:=List.take_of_length_le (by omega)
 have hcl:n*6≤cs.length:=by omega
 have htw:∀ h,∃ w',Acall tab 84 [.agg (trow w)] h=some (.agg (trow { w with cap:= .no }),h,w'):=fun h=>by
  have:=twin_ok h w hml
  unfold Ccall at this
  obtain ⟨⟨v,h2,w'⟩,q1,q2⟩:=Option.map_eq_some_iff.1 this
  simp only [Prod.mk.injEq] at q2
  obtain ⟨rfl,rfl⟩:=q2
  exact ⟨w',q1⟩
 obtain ⟨w',hw'⟩:=htw (H ++ (Z ++ [.cells (trow w),.free,.free]))
 have hkk:¬ n+1≤n:=by omega
 have hz:¬ Z=[]:=by rintro rfl;simp at l1
 have hrm:¬ 140737488355328<(n+1)*72:=by omega
 have hrm2:(n+1)*72≤140737488355328:=by omega
 unfold trow at hw' ⊢
 refine Brun_told ?_
 clear h1 hrz hml htw lr l1
 simp [*,f33r11,asteps,astep,stepRun,aop,HC.run,HC.rds,HC.wrs,HC.ofOpt,Blk.isFree,wanted,put,cellsOf,isSc,splice,cget,slen,ssz,scells,roomy,rowsz,Cap.tight,drawOK,freeOf,Rec.indep,disj,apart,AOper.looks,AOp.tmps,AO.tmps,pTmps,oTmps,Nat.testBit,ap4,ofL,isPure,tab,f84,fillp,imm,imm.immL,Nat.add_assoc]
def keyL (r:TR):List AV:=[.int .i64 r.kind,.int .i64 r.elem,.int .i64 r.len]
theorem keyC_agg (l:List AV):keyCells true (.agg l)=some l:=rfl
theorem keyO_int (a b c:Int):keyOK [.int .i64,.int .i64,.int .i64] [.int .i64 a,.int .i64 b,.int .i64 c]=true:=by simp [keyOK,eqCells]
theorem eqc_int (a b c x y z:Int):eqCells [.int .i64,.int .i64,.int .i64] [.int .i64 a,.int .i64 b,.int .i64 c] [.int .i64 x,.int .i64 y,.int .i64 z]=some (a == x && (b == y && c == z)):=by simp [eqCells]
theorem found_t (z:AV) (i:Nat) (v:AV):found z true (some (i,v)) = .tup [v,.bool true]:=rfl
theorem found_f (z:AV):found z true none = .tup [z,.bool false]:=rfl
def KeysOK (es:Ents) (t:List TR):Prop:=(∀ e ∈ es,∃ (i:Nat) (q:TR),t[i]?=some q∧isPA q=true∧e.1 = .agg (keyL q)∧e.2.1 = .int .i64 i)∧∀ q ∈ t,isPA q=true→∃ e ∈ es,e.1 = .agg (keyL q)
theorem keys_find {t:List TR} {w:TR} (hn:∀ q ∈ t,isPA q=true→keyR q≠keyR w):∀ (es:Ents) (j:Nat),(∀ e ∈ es,∃ q ∈ t,isPA q=true∧e.1 = .agg (keyL q))→findA true [.int .i64,.int .i64,.int .i64] [.int .i64 w.kind,.int .i64 w.elem,.int .i64 w.len] es j=some none:=by
 intro es
 induction es with
 | nil=>intro j _;rfl
 | cons e r ih =>
  intro j h
  obtain ⟨q,hq,hp,he⟩:=h e (by simp)
  obtain ⟨k,v,c⟩:=e
  dsimp only at he
  subst he
  simp only [findA,keyC_agg,keyL,eqc_int]
  have hne:=hn q hq hp
  have:(w.kind == q.kind && (w.elem == q.elem && w.len == q.len))=false:=by
   cases hb:(w.kind == q.kind && (w.elem == q.elem && w.len == q.len)) with
   | false=>rfl
   | true =>
    simp only [Bool.and_eq_true,beq_iff_eq] at hb
    exact absurd (by unfold keyR;rw [hb.1,hb.2.1,hb.2.2]) hne
  rw [this]
  exact ih (j+1) fun x hx=>h x (by simp [hx])
structure FInv (H Z:Heap) (r:Nat) (t:List TR) (es:Ents) (ck:Nat):Prop where
 z0:Z[0]?=some (.map es ck)
 z1:Z[1]?=some (.cells [.ms (H.length+r) 0 t.length 6 t.length false,.mm H.length])
 zr:Z[r]?=some (.cells (cellsT t))
 r2:2≤r
theorem FInv.tab {H Z:Heap} {r:Nat} {t:List TR} {es:Ents} {ck:Nat} (h:FInv H Z r t es ck):TabAt (H ++ Z) (H.length+1) (H.length+r) H.length t.length false t:=by
 have l1:=(List.getElem?_eq_some_iff.1 h.z1).1
 have lr:=(List.getElem?_eq_some_iff.1 h.zr).1
 refine ⟨fun x=>?_,fun x=>?_⟩
 ·rw [List.append_assoc,app_get rfl,List.getElem?_append_left l1];exact h.z1
 ·rw [List.append_assoc,app_get rfl,List.getElem?_append_left lr];exact h.zr
theorem from_row (H Z:Heap) (A:List (List AV)) (c0:Cap) (i r:Nat) (w:TR) (t:List TR) (es:Ents) (ck:Nat) (hA:A.length≤512) (hi:11≤i) (hg:A[i]?=some (trow w)) (hcap:w.cap = .no) (ht:t.length=i) (h:FInv H Z r t es ck) (hk:KeysOK es t)
  (hsh:shapedR i w=true) (hnew:isPA w=true→∀ q ∈ t,isPA q=true→keyR q≠keyR w) (htag:w.tag.length≤1048576) (hml:w.mem.length≤16777216) :
  ∃ Z' r' es' ck',FInv H Z' r' (t ++ [w]) es' ck'∧KeysOK es' (t ++ [w])∧Brun tab 172 f33l6 (ofL [(0,.is A c0),(4,.mp (H.length+1) 0),(5,.int .i64 11),(30,.is A c0),(31,.int .i64 A.length),(32,.int .i64 i)]) (H ++ Z) =
   some (.normal,ofL [(0,.is A c0),(4,.mp (H.length+1) 0),(5,.int .i64 11),(30,.is A c0),(31,.int .i64 A.length),(32,.int .i64 (i+1))],H ++ Z'):=by
 have la:=(List.getElem?_eq_some_iff.1 hg).1
 have l0:=(List.getElem?_eq_some_iff.1 h.z0).1
 have l1:=(List.getElem?_eq_some_iff.1 h.z1).1
 have hr2:=h.r2
 have hr11:=fun x0 x5 x6 x30 x31 x32 x39=>r11_told H Z x0 x5 x6 x30 x31 x32 x39 w r t.length (.mm H.length) (cellsT t) (by omega) (by omega) hml h.z1 h.zr (cells_len t)
 have hww:{ w with cap:= .no }=w:=by cases w;simp only at hcap;subst hcap;rfl
 rw [hww] at hr11
 obtain ⟨W,hW⟩:∃ W,W=(Z.set r .dead).set 1 (.cells [.ms (H.length+(Z.length+2)) 0 (t.length+1) 6 (t.length+1) false,.mm H.length]) ++ [.cells (trow w),.cells (trow w),.cells (cellsT t ++ trow w)]:=⟨_,rfl⟩
 rw [← hW] at hr11
 have hl2:((Z.set r Blk.dead).set 1 (.cells [.ms (H.length+(Z.length+2)) 0 (t.length+1) 6 (t.length+1) false,.mm H.length])).length=Z.length:=by simp
 have w0:W[0]?=some (.map es ck):=by
  rw [hW,List.getElem?_append_left (by rw [hl2];exact l0),List.getElem?_set_ne (by omega),List.getElem?_set_ne (by omega)];exact h.z0
 have w1:W[1]?=some (.cells [.ms (H.length+(Z.length+2)) 0 (t.length+1) 6 (t.length+1) false,.mm H.length]):=by
  rw [hW,List.getElem?_append_left (by rw [hl2];exact l1),List.getElem?_set];simp [l1]
 have wx:W[Z.length]?=some (.cells (trow w)):=by
  rw [hW,List.getElem?_append_right (by rw [hl2];exact Nat.le_refl _),hl2,Nat.sub_self];rfl
 have wr:W[Z.length+2]?=some (.cells (cellsT (t ++ [w]))):=by
  rw [hW,List.getElem?_append_right (by rw [hl2];omega),hl2,Nat.add_sub_cancel_left,cells_app,cells_one];rfl
 have hWl:W.length=Z.length+3:=by rw [hW,List.length_append,hl2];rfl
 have hI:FInv H W (Z.length+2) (t ++ [w]) es ck:=⟨w0,by rw [List.length_append,List.length_singleton];exact w1,wr,by omega⟩
 have hiw:(t ++ [w])[i]?=some w:=by rw [List.getElem?_append_right (by omega),ht,Nat.sub_self];rfl
 have hS:=shaped_ok hI.tab hiw htag
 rw [hsh] at hS
 have g0:∀ x,(W ++ x)[0]?=some (.map es ck):=fun x=>by rw [List.getElem?_append_left (by omega)];exact w0
 have g0':∀ x (hh:0<(W ++ x).length),(W ++ x)[0]'hh = .map es ck:=fun x hh=>(List.getElem?_eq_some_iff.1 (g0 x)).2
 have g1:∀ x,(W ++ x)[1]?=some (.cells [.ms (H.length+(Z.length+2)) 0 (t.length+1) 6 (t.length+1) false,.mm H.length]):=fun x=>by rw [List.getElem?_append_left (by omega)];exact w1
 have g1':∀ x (hh:1<(W ++ x).length),(W ++ x)[1]'hh = .cells [.ms (H.length+(Z.length+2)) 0 (t.length+1) 6 (t.length+1) false,.mm H.length]:=fun x hh=>(List.getElem?_eq_some_iff.1 (g1 x)).2
 have gx:∀ x,(W ++ x)[Z.length]?=some (.cells (trow w)):=fun x=>by rw [List.getElem?_append_left (by omega)];exact wx
 have wx':∀ hh:Z.length<W.length,W[Z.length]'hh = .cells (trow w):=fun hh=>(List.getElem?_eq_some_iff.1 wx).2
 have gx':∀ x (hh:Z.length<(W ++ x).length),(W ++ x)[Z.length]'hh = .cells (trow w):=fun x hh=>(List.getElem?_eq_some_iff.1 (gx x)).2
 have s0:∀ x b,(W ++ x).set 0 b=W.set 0 b ++ x:=fun x b=>by rw [List.set_append_left _ _ (by omega)]
 have e3:¬ (A.length:Int)≤i:=by omega
 have e4:(11:Int)≤i:=by omega
 have hwr:=cw64 i (by omega)
 have hkeep:∀ (x:Heap) (b:Blk),(W.set 0 b ++ x)[0]?=some b∧(W.set 0 b ++ x)[1]?=W[1]?∧(W.set 0 b ++ x)[Z.length+2]?=W[Z.length+2]?:=fun x b=>by
  have hl:(W.set 0 b).length=Z.length+3:=by rw [List.length_set];exact hWl
  refine ⟨?_,?_,?_⟩
  ·rw [List.getElem?_append_left (by omega),List.getElem?_set,if_pos rfl,if_pos (by omega)]
  ·rw [List.getElem?_append_left (by omega),List.getElem?_set_ne (by omega)]
  ·rw [List.getElem?_append_left (by omega),List.getElem?_set_ne (by omega)]
 rw [List.append_assoc] at hS
 unfold trow at hg hr11 hS gx wx' gx'
 by_cases hpa:isPA w=true
 ·have hfind:=keys_find (hnew hpa) es 0 (fun e he=>by obtain ⟨i,q,q1,q2,q3,_⟩:=hk.1 e he;exact ⟨q,List.mem_of_getElem? q1,q2,q3⟩)
  have hkind:w.kind=13∨w.kind=14:=by simpa [isPA] using hpa
  obtain ⟨k0,k1,k2⟩:=hkeep [.cells [.int .i64 w.kind,.int .i64 w.elem,.int .i64 w.len,.str w.tag,.is (memRows w.mem) w.cap,.bool w.done],.cells [.int .i64 w.kind,.int .i64 w.elem,.int .i64 w.len,.str w.tag,.is [] .nil,.bool w.done],.cells (wantC w),.cells (keyL w)] (.map (es ++ [(.agg (keyL w),.int .i64 i,ck)]) (ck+1))
  refine ⟨W.set 0 (.map (es ++ [(.agg (keyL w),.int .i64 i,ck)]) (ck+1)) ++ [.cells [.int .i64 w.kind,.int .i64 w.elem,.int .i64 w.len,.str w.tag,.is (memRows w.mem) w.cap,.bool w.done],.cells [.int .i64 w.kind,.int .i64 w.elem,.int .i64 w.len,.str w.tag,.is [] .nil,.bool w.done],.cells (wantC w),.cells (keyL w)],Z.length+2,_,_,⟨k0,by rw [k1];exact hI.z1,by rw [k2];exact wr,by omega⟩,?_,?_⟩
  ·refine ⟨fun e he=>?_,fun q hq hp=>?_⟩
   ·rcases List.mem_append.1 he with he|he
    ·obtain ⟨j,q,q1,q2,q3,q4⟩:=hk.1 e he
     exact ⟨j,q,by rw [List.getElem?_append_left (List.getElem?_eq_some_iff.1 q1).1];exact q1,q2,q3,q4⟩
    ·simp only [List.mem_singleton] at he
     subst he
     exact ⟨i,w,hiw,hpa,rfl,rfl⟩
   ·rcases List.mem_append.1 hq with hq|hq
    ·obtain ⟨e,e1,e2⟩:=hk.2 q hq hp
     exact ⟨e,List.mem_append.2 (.inl e1),e2⟩
    ·simp only [List.mem_singleton] at hq
     subst hq
     exact ⟨_,List.mem_append.2 (.inr (List.mem_singleton.2 rfl)),rfl⟩
  ·unfold keyL
   obtain ⟨kind,elem,len,tag,mem,done,cp⟩:=w
   dsimp only at *
   generalize wantC _=wc at *
   clear hA hi hcap ht h hk hsh hnew htag hml la l0 l1 hr2 hww hW hl2 w0 w1 wx wr hI hiw hkeep hpa k0 k1 k2
   rcases hkind with rfl|rfl
   ·repeat (any_goals first|simp -dsimp (maxSteps:=4000000) (maxDischargeDepth:=8) -implicitDefEqProofs [*,-Int.not_le,-Int.not_lt,amLt,ap4,keyC_agg,keyO_int,found_t,found_f,mapF_map,Nat.add_assoc]|with_reducible (first|apply cB|apply iB)<;>intro _|intro _)
   ·repeat (any_goals first|simp -dsimp (maxSteps:=4000000) (maxDischargeDepth:=8) -implicitDefEqProofs [*,-Int.not_le,-Int.not_lt,amLt,ap4,keyC_agg,keyO_int,found_t,found_f,mapF_map,Nat.add_assoc]|with_reducible (first|apply cB|apply iB)<;>intro _|intro _)
 ·have hkind:¬ (w.kind=13∨w.kind=14):=by simpa [isPA] using hpa
  have n13:¬ w.kind=13:=fun e=>hkind (.inl e)
  have n14:¬ w.kind=14:=fun e=>hkind (.inr e)
  refine ⟨W ++ [.cells [.int .i64 w.kind,.int .i64 w.elem,.int .i64 w.len,.str w.tag,.is (memRows w.mem) w.cap,.bool w.done],.cells [.int .i64 w.kind,.int .i64 w.elem,.int .i64 w.len,.str w.tag,.is [] .nil,.bool w.done],.cells (wantC w)],Z.length+2,es,ck,⟨g0 _,by rw [List.length_append,List.length_singleton];exact g1 _,by rw [List.getElem?_append_left (by omega)];exact wr,by omega⟩,?_,?_⟩
  ·refine ⟨fun e he=>?_,fun q hq hp=>?_⟩
   ·obtain ⟨j,q,q1,q2,q3,q4⟩:=hk.1 e he
    exact ⟨j,q,by rw [List.getElem?_append_left (List.getElem?_eq_some_iff.1 q1).1];exact q1,q2,q3,q4⟩
   ·rcases List.mem_append.1 hq with hq|hq
    ·exact hk.2 q hq hp
    ·simp only [List.mem_singleton] at hq
     subst hq
     exact absurd hp hpa
  ·obtain ⟨kind,elem,len,tag,mem,done,cp⟩:=w
   dsimp only at *
   generalize wantC _=wc at *
   clear hA hi hcap ht h hk hsh hnew htag hml la l0 l1 hr2 hww hW hl2 w0 w1 wx wr hI hiw hkeep hpa hkind
   repeat (any_goals first|simp -dsimp (maxSteps:=4000000) (maxDischargeDepth:=8) -implicitDefEqProofs [*,-Int.not_le,-Int.not_lt,amLt,ap4,Nat.add_assoc]|with_reducible (first|apply cB|apply iB)<;>intro _|intro _)
def tabOf (rows:List TR):List TR:=basicsT 11 ++ rows.drop 11
theorem basic_row {i:Nat} {w:TR} (h:basicR i w=true) (hc:w.cap = .no):trow w=[.int .i64 ((i:Int)+1),.int .i64 0,.int .i64 0,.str [],.is [] .no,.bool false]:=by
 unfold basicR at h
 simp only [decide_eq_true_eq] at h
 obtain ⟨h1,h2,h3,h4,h5,h6⟩:=h
 unfold trow
 rw [h1,h2,h3,h4,h5,h6,hc]
 rfl
theorem basics_cell {i:Nat} (hi:i<11) (t:List TR):(cellsT (basicsT 11 ++ t))[i*6]?=some (.int .i64 ((i:Int)+1)):=by
 have h:(basicsT 11 ++ t)[i]?=some (basicT i):=by
  rw [List.getElem?_append_left (by rw [basics_len];exact hi)]
  simp [basicsT,hi]
 have:=cells_at h 0 (by decide)
 rw [Nat.add_zero] at this
 exact this
theorem from_loop1 (H:Heap) (rows:List TR) (c0:Cap) (hcap:∀ w ∈ rows,w.cap = .no) (hsz:∀ w ∈ rows,w.tag.length≤1048576∧w.mem.length≤16777216) (ha:AccP rows):∀ (m i:Nat) (Z:Heap) (r:Nat) (es:Ents) (ck:Nat),i+m=rows.length→FInv H Z r (basicsT 11 ++ (rows.take i).drop 11) es ck→KeysOK es (basicsT 11 ++ (rows.take i).drop 11) →
  ∃ Z' r' es' ck',FInv H Z' r' (tabOf rows) es' ck'∧KeysOK es' (tabOf rows)∧Brun tab 172 (.loop f33l6) (ofL [(0,.is (rows.map trow) c0),(4,.mp (H.length+1) 0),(5,.int .i64 11),(30,.is (rows.map trow) c0),(31,.int .i64 rows.length),(32,.int .i64 i)]) (H ++ Z) =
   some (.exit 0,ofL [(0,.is (rows.map trow) c0),(4,.mp (H.length+1) 0),(5,.int .i64 11),(30,.is (rows.map trow) c0),(31,.int .i64 rows.length),(32,.int .i64 rows.length),(33,.bool false)],H ++ Z'):=by
 have hlen:(rows.map trow).length=rows.length:=by simp
 have hhi:=ha.hi
 intro m
 induction m with
 | zero =>
  intro i Z r es ck hi h hk
  refine ⟨Z,r,es,ck,?_,?_,?_⟩
  ·rw [List.take_of_length_le (by omega)] at h;exact h
  ·rw [List.take_of_length_le (by omega)] at hk;exact hk
  ·have e3:(rows.length:Int)=i:=by omega
   rw [Brun_loop]
   generalize rows.map trow=A at *
   clear hi h hk hcap hsz ha hhi
   repeat (any_goals first|simp -dsimp (maxSteps:=4000000) (maxDischargeDepth:=8) -implicitDefEqProofs [*,-Int.not_le,-Int.not_lt,amLt]|with_reducible (first|apply cB|apply iB)<;>intro _|intro _)
 | succ m ih =>
  intro i Z r es ck hi h hk
  have hlt:i<rows.length:=by omega
  have hg:rows[i]?=some rows[i]:=List.getElem?_eq_getElem hlt
  have hmem:rows[i] ∈ rows:=List.getElem_mem hlt
  have hgA:(rows.map trow)[i]?=some (trow rows[i]):=by simp [hg]
  have hc:=hcap _ hmem
  obtain ⟨ht1,ht2⟩:=hsz _ hmem
  by_cases hb:i<11
  ·have hbr:=ha.basic i _ hg hb
   have htk:(rows.take (i+1)).drop 11=(rows.take i).drop 11:=by
    rw [List.drop_of_length_le (by rw [List.length_take];omega),List.drop_of_length_le (by rw [List.length_take];omega)]
   rw [basic_row hbr hc] at hgA
   have hbd:=from_basic H Z (rows.map trow) c0 i r _ (.mm H.length) (.int .i64 0) _ (by omega) hb hgA h.z1 h.zr (by rw [List.length_append,basics_len];omega) (basics_cell hb _)
   have l0:=(List.getElem?_eq_some_iff.1 h.z0).1
   have l1:=(List.getElem?_eq_some_iff.1 h.z1).1
   have lr:=(List.getElem?_eq_some_iff.1 h.zr).1
   obtain ⟨Z',r',es',ck',g1,gk,g2⟩:=ih (i+1) (Z ++ [.cells [.int .i64 ((i:Int)+1),.int .i64 0,.int .i64 0,.str [],.is [] .no,.bool false]]) r es ck (by omega) (by
    rw [htk]
    exact ⟨by rw [List.getElem?_append_left l0];exact h.z0,by rw [List.getElem?_append_left l1];exact h.z1,by rw [List.getElem?_append_left lr];exact h.zr,h.r2⟩) (by rw [htk];exact hk)
   refine ⟨Z',r',es',ck',g1,gk,?_⟩
   rw [hlen] at hbd
   push_cast at g2
   rw [Brun_loop,hbd,bthen_normal]
   exact g2
  ·obtain ⟨hs,htw⟩:=ha.row i _ hg (by omega)
   have htk:(rows.take (i+1)).drop 11=(rows.take i).drop 11 ++ [rows[i]]:=by
    rw [List.take_add_one,hg]
    simp only [Option.toList]
    rw [List.drop_append_of_le_length (by rw [List.length_take];omega)]
   have hnew:isPA rows[i]=true→∀ q ∈ basicsT 11 ++ (rows.take i).drop 11,isPA q=true→keyR q≠keyR rows[i]:=by
    intro hp q hq hqp he
    rcases List.mem_append.1 hq with hq|hq
    ·obtain ⟨k,hk1,rfl⟩:=List.mem_map.1 hq
     have:=List.mem_range.1 hk1
     have hkd:(basicT k).kind=(k:Int)+1:=rfl
     unfold isPA at hqp
     rw [hkd] at hqp
     simp only [decide_eq_true_eq] at hqp
     omega
    ·have:twiceS rows i rows[i]=true:=by
      unfold twiceS
      rw [hp,Bool.true_and]
      exact List.any_eq_true.2 ⟨q,List.mem_of_mem_drop hq,by simpa using he⟩
     rw [htw] at this
     cases this
   obtain ⟨Z1,r1,es1,ck1,q1,q2,hbd⟩:=from_row H Z (rows.map trow) c0 i r rows[i] _ es ck (by omega) (by omega) hgA hc (by rw [List.length_append,basics_len,List.length_drop,List.length_take];omega) h hk hs hnew ht1 ht2
   rw [List.append_assoc,← htk] at q1 q2
   obtain ⟨Z',r',es',ck',g1,gk,g2⟩:=ih (i+1) Z1 r1 es1 ck1 (by omega) q1 q2
   refine ⟨Z',r',es',ck',g1,gk,?_⟩
   rw [hlen] at hbd
   push_cast at g2
   rw [Brun_loop,hbd,bthen_normal]
   exact g2
section
variable {G:Heap} {T R M cap:Nat} {ex:Bool} {t:List TR}
theorem look_body (ht:TabAt G T R M cap ex t) (S:AV) (i:Nat) (w:TR) (hi:t[i]?=some w) (hn:t.length≤600) (hsz:w.mem.length≤16777216∧∀ m ∈ w.mem,m.1.length≤1048576) (hwh:w.kind=14→wholeS t w.elem=true) (hme:w.done=true→membersE (wholeS t) (kindS t) (hasS t) w.mem=0) :
  ∃ Y,Brun tab 172 f33l23 (ofL [(4,.mp T 0),(11,S),(129,.ms R 0 t.length 6 cap ex),(130,.int .i64 t.length),(131,.int .i64 i)]) G =
   some (.normal,ofL [(4,.mp T 0),(11,S),(129,.ms R 0 t.length 6 cap ex),(130,.int .i64 t.length),(131,.int .i64 (i+1))],G ++ Y):=by
 have hlt:=(List.getElem?_eq_some_iff.1 hi).1
 have hW:=whole_ok (ht.app [.cells (trow w)]).t0 (ht.app [.cells (trow w)]).r0 w.elem
 obtain ⟨Y,hM⟩:=members_ok (ht.app [.cells (trow w)]) w.mem w.cap hsz.1 hsz.2
 have hR:=ht.r
 have hR0:=ht.r0
 have hrow:=cells_row hi
 have hcl:=cells_len t
 have hle:i*6+6≤(cellsT t).length:=by omega
 have h1:(i:Int)<t.length:=by omega
 have e3:¬ (t.length:Int)≤i:=by omega
 have hwr:=cw64 i (by omega)
 have hid1:i+1≤t.length:=hlt
 rw [List.append_assoc] at hM
 unfold trow at hW hM hrow
 generalize cellsT t=ct at *
 clear ht hi hn hsz hlt hcl
 obtain ⟨kind,elem,len,tag,mem,done,cp⟩:=w
 dsimp only at *
 cases done with
 | true =>
  rw [hme rfl] at hM
  refine ⟨[.cells [.int .i64 kind,.int .i64 elem,.int .i64 len,.str tag,.is (memRows mem) cp,.bool true]] ++ Y,?_⟩
  by_cases k14:kind=14
  ·rw [hwh k14] at hW
   subst k14
   clear hwh hme
   repeat (any_goals first|simp -dsimp (maxSteps:=4000000) (maxDischargeDepth:=8) -implicitDefEqProofs [*,-Int.not_le,-Int.not_lt,amLt,ap4]|with_reducible (first|apply cB|apply iB)<;>intro _|intro _)
  ·clear hwh hme hW
   repeat (any_goals first|simp -dsimp (maxSteps:=4000000) (maxDischargeDepth:=8) -implicitDefEqProofs [*,-Int.not_le,-Int.not_lt,amLt,ap4]|with_reducible (first|apply cB|apply iB)<;>intro _|intro _)
 | false =>
  refine ⟨[.cells [.int .i64 kind,.int .i64 elem,.int .i64 len,.str tag,.is (memRows mem) cp,.bool false]],?_⟩
  by_cases k14:kind=14
  ·rw [hwh k14] at hW
   subst k14
   clear hwh hme hM
   repeat (any_goals first|simp -dsimp (maxSteps:=4000000) (maxDischargeDepth:=8) -implicitDefEqProofs [*,-Int.not_le,-Int.not_lt,amLt,ap4]|with_reducible (first|apply cB|apply iB)<;>intro _|intro _)
  ·clear hwh hme hW hM
   repeat (any_goals first|simp -dsimp (maxSteps:=4000000) (maxDischargeDepth:=8) -implicitDefEqProofs [*,-Int.not_le,-Int.not_lt,amLt,ap4]|with_reducible (first|apply cB|apply iB)<;>intro _|intro _)
theorem look_loop (S:AV) (hn:t.length≤600) (hsz:∀ w ∈ t,w.mem.length≤16777216∧∀ m ∈ w.mem,m.1.length≤1048576) (hwh:∀ w ∈ t,w.kind=14→wholeS t w.elem=true) (hme:∀ w ∈ t,w.done=true→membersE (wholeS t) (kindS t) (hasS t) w.mem=0):∀ (m i:Nat) (G:Heap),i+m=t.length→TabAt G T R M cap ex t →
  ∃ Y,Brun tab 172 (.loop f33l23) (ofL [(4,.mp T 0),(11,S),(129,.ms R 0 t.length 6 cap ex),(130,.int .i64 t.length),(131,.int .i64 i)]) G =
   some (.exit 2,ofL [(4,.mp T 0),(11,S),(129,.ms R 0 t.length 6 cap ex),(130,.int .i64 t.length),(131,.int .i64 t.length),(132,.bool false)],G ++ Y):=by
 intro m
 induction m with
 | zero =>
  intro i G hi ht
  refine ⟨[],?_⟩
  have e3:(t.length:Int)=i:=by omega
  rw [Brun_loop,List.append_nil]
  clear hi ht hn hsz hwh hme
  repeat (any_goals first|simp -dsimp (maxSteps:=4000000) (maxDischargeDepth:=8) -implicitDefEqProofs [*,-Int.not_le,-Int.not_lt,amLt]|with_reducible (first|apply cB|apply iB)<;>intro _|intro _)
 | succ m ih =>
  intro i G hi ht
  have hlt:i<t.length:=by omega
  have hmem:t[i] ∈ t:=List.getElem_mem hlt
  obtain ⟨Y,hb⟩:=look_body ht S i t[i] (List.getElem?_eq_getElem hlt) hn (hsz _ hmem) (hwh _ hmem) (hme _ hmem)
  obtain ⟨Y2,h2⟩:=ih (i+1) (G ++ Y) (by omega) (ht.app Y)
  refine ⟨Y ++ Y2,?_⟩
  push_cast at h2
  rw [Brun_loop,hb,bthen_normal,h2,List.append_assoc]
theorem inner_loop {S cs:Nat} {e2:Bool} (hD:∀ r ∈ t,r.mem.length≤16777216∧∀ d ∈ deps r,0≤d∧d.toNat<t.length) (hn:t.length≤600) {f:Nat}:∀ (m i:Nat) (G:Heap) (st st':List Int),i+m=t.length→WAt G T R M cap ex t S st→st.length=t.length→withinA t f m i st=some (true,st') →
  ∃ G',WAt G' T R M cap ex t S st'∧Ext G G' S∧Brun tab 172 (.loop f33l29) (ofL [(4,.mp T 0),(11,.ms S 0 t.length 1 cs e2),(161,.int .i64 t.length),(162,.int .i64 i)]) G =
   some (.exit 4,ofL [(4,.mp T 0),(11,.ms S 0 t.length 1 cs e2),(161,.int .i64 t.length),(162,.int .i64 t.length),(163,.bool false)],G'):=by
 intro m
 induction m with
 | zero =>
  intro i G st st' hi h hst hw
  simp only [withinA,Option.some.injEq,Prod.mk.injEq,true_and] at hw
  subst hw
  refine ⟨G,h,Ext.refl G S,?_⟩
  have e3:(t.length:Int)=i:=by omega
  rw [Brun_loop]
  clear hi h hst hD hn
  repeat (any_goals first|simp -dsimp (maxSteps:=4000000) (maxDischargeDepth:=8) -implicitDefEqProofs [*,-Int.not_le,-Int.not_lt,amLt]|with_reducible (first|apply cB|apply iB)<;>intro _|intro _)
 | succ m ih =>
  intro i G st st' hi h hst hw
  have hlt:i<t.length:=by omega
  unfold withinA at hw
  cases hS:withinS t f i st with
  | none=>rw [hS] at hw;cases hw
  | some p =>
   obtain ⟨b,st1⟩:=p
   rw [hS] at hw
   cases b with
   | false=>simp at hw
   | true =>
    dsimp only at hw
    obtain ⟨G1,hc,h1,x1,l1⟩:=rec_all (cs:=cs) (e2:=e2) hD f i st true st1 G h hS hlt hst
    obtain ⟨G2,h2,x2,hb2⟩:=ih (i+1) G1 st1 st' (by omega) h1 l1 hw
    refine ⟨G2,h2,x1.trans x2,?_⟩
    have e3:¬ (t.length:Int)≤i:=by omega
    have hwr:=cw64 i (by omega)
    have hb:Brun tab 172 f33l29 (ofL [(4,.mp T 0),(11,.ms S 0 t.length 1 cs e2),(161,.int .i64 t.length),(162,.int .i64 i)]) G=some (.normal,ofL [(4,.mp T 0),(11,.ms S 0 t.length 1 cs e2),(161,.int .i64 t.length),(162,.int .i64 (i+1))],G1):=by
     clear hi h hst hw hS h1 x1 l1 h2 x2 hb2 ih hD hn hlt
     repeat (any_goals first|simp -dsimp (maxSteps:=4000000) (maxDischargeDepth:=8) -implicitDefEqProofs [*,-Int.not_le,-Int.not_lt,amLt]|with_reducible (first|apply cB|apply iB)<;>intro _|intro _)
    push_cast at hb2
    rw [Brun_loop,hb,bthen_normal]
    exact hb2
end
def eraseT (r:TR):TR:={ r with cap:= .no }
theorem getT_erase (t:List TR) (id:Int):getT (t.map eraseT) id=(getT t id).map eraseT:=by
 unfold getT
 split
 ·simp
 ·rfl
theorem whole_erase (t:List TR):wholeS (t.map eraseT)=wholeS t:=by
 funext id
 unfold wholeS
 rw [getT_erase]
 cases getT t id<;>rfl
theorem kind_erase (t:List TR):kindS (t.map eraseT)=kindS t:=by
 funext id
 unfold kindS
 rw [getT_erase]
 cases getT t id<;>rfl
theorem has_erase (t:List TR):hasS (t.map eraseT)=hasS t:=by
 funext id
 unfold hasS
 rw [getT_erase]
 cases getT t id<;>rfl
theorem tab_erase {rows:List TR} (hcap:∀ w ∈ rows,w.cap = .no) (ha:AccP rows):(tabOf rows).map eraseT=rows:=by
 have hlo:=ha.lo
 have e:rows=rows.take 11 ++ rows.drop 11:=(List.take_append_drop 11 rows).symm
 conv=>rhs;rw [e]
 unfold tabOf
 rw [List.map_append]
 congr 1
 ·apply List.ext_getElem?
  intro i
  by_cases hi:i<11
  ·rw [List.getElem?_take,if_pos hi]
   have hg:rows[i]?=some rows[i]:=List.getElem?_eq_getElem (by omega)
   have hb:=ha.basic i _ hg hi
   have hc:=hcap rows[i] (List.getElem_mem _)
   rw [hg]
   have:((basicsT 11).map eraseT)[i]?=some (eraseT (basicT i)):=by simp [basicsT,hi]
   rw [this]
   unfold basicR at hb
   simp only [decide_eq_true_eq] at hb
   obtain ⟨h1,h2,h3,h4,h5,h6⟩:=hb
   generalize rows[i]=w at *
   obtain ⟨kind,elem,len,tag,mem,done,cp⟩:=w
   dsimp only at *
   subst h1 h2 h3 h4 h5 h6 hc
   rfl
  ·rw [List.getElem?_eq_none (by simp [basicsT];omega),List.getElem?_eq_none (by rw [List.length_take];omega)]
 ·conv=>rhs;rw [← List.map_id (rows.drop 11)]
  apply List.map_congr_left
  intro w hw
  have hc:=hcap w (List.mem_of_mem_drop hw)
  cases w
  simp only at hc
  subst hc
  rfl
theorem tab_len {rows:List TR} (hcap:∀ w ∈ rows,w.cap = .no) (ha:AccP rows):(tabOf rows).length=rows.length:=by
 have:=congrArg List.length (tab_erase hcap ha)
 simpa using this
theorem ext_split {H Z G:Heap} {S:Nat} (h:Ext (H ++ Z) G S) (hS:H.length≤S):∃ Z',G=H ++ Z'∧∀ j,H.length+j≠S→j<Z.length→Z'[j]?=Z[j]?:=by
 have hl:=h.1
 simp only [List.length_append] at hl
 refine ⟨G.drop H.length,?_,fun j hj hz=>?_⟩
 ·conv=>lhs;rw [← List.take_append_drop H.length G]
  congr 1
  apply List.ext_getElem?
  intro i
  rw [List.getElem?_take]
  by_cases hi:i<H.length
  ·rw [if_pos hi,h.2 i (by simp;omega) (by omega),List.getElem?_append_left hi]
  ·rw [if_neg hi,List.getElem?_eq_none (by omega)]
 ·rw [List.getElem?_drop,h.2 _ (by simp;omega) hj,List.getElem?_append_right (by omega),Nat.add_sub_cancel_left]
theorem sts_rep (n:Nat):repeatCells n [.int .i64 0]=sts (List.replicate n 0):=by
 unfold repeatCells sts
 induction n with
 | zero=>rfl
 | succ n ih =>
  rw [List.replicate_succ,List.flatten_cons,ih]
  rfl
theorem from_ok (H:Heap) (rows:List TR) (c0:Cap) (hcap:∀ w ∈ rows,w.cap = .no) (hsz:∀ w ∈ rows,w.tag.length≤1048576∧w.mem.length≤16777216∧∀ m ∈ w.mem,m.1.length≤1048576) (ha:AccP rows) :
  ∃ Z r es ck,FInv H Z r (tabOf rows) es ck∧KeysOK es (tabOf rows)∧Ccall tab 33 [.is (rows.map trow) c0] H=some (.tup [.mp (H.length+1) 0,.int .i64 0],H ++ Z):=by
 have hte:=tab_erase hcap ha
 have htl:=tab_len hcap ha
 have hlo:=ha.lo
 have hhi:=ha.hi
 obtain ⟨Z0,r0,hN,hnew⟩:=new_ok H
 have hF0:FInv H Z0 r0 (basicsT 11 ++ (rows.take 0).drop 11) [] 0:=by
  rw [show basicsT 11 ++ (rows.take 0).drop 11=basicsT 11 by simp]
  exact ⟨hN.z0,by rw [basics_len];exact hN.z1,hN.zr,hN.r2⟩
 obtain ⟨Z1,r1,es1,ck1,hF1,hK1,lp1⟩:=from_loop1 H rows c0 hcap (fun w hw=>⟨(hsz w hw).1,(hsz w hw).2.1⟩) ha rows.length 0 Z0 r0 [] 0 (by omega) hF0 ⟨(fun e he=>by cases he),fun q hq hp=>by
  rw [show basicsT 11 ++ (rows.take 0).drop 11=basicsT 11 by simp] at hq
  obtain ⟨k,hk1,rfl⟩:=List.mem_map.1 hq
  have:=List.mem_range.1 hk1
  have hkd:(basicT k).kind=(k:Int)+1:=rfl
  unfold isPA at hp
  rw [hkd] at hp
  simp only [decide_eq_true_eq] at hp
  omega⟩
 have ht1:=hF1.tab
 have hsz':∀ w ∈ tabOf rows,w.mem.length≤16777216∧∀ m ∈ w.mem,m.1.length≤1048576:=fun w hw=>by
  have:eraseT w ∈ rows:=by rw [← hte];exact List.mem_map.2 ⟨w,hw,rfl⟩
  exact (hsz _ this).2
 have hwh:∀ w ∈ tabOf rows,w.kind=14→wholeS (tabOf rows) w.elem=true:=fun w hw hk=>by
  have hm:eraseT w ∈ rows:=by rw [← hte];exact List.mem_map.2 ⟨w,hw,rfl⟩
  have:=ha.whole _ hm hk
  conv at this=>lhs;rw [← hte]
  rwa [whole_erase] at this
 have hme:∀ w ∈ tabOf rows,w.done=true→membersE (wholeS (tabOf rows)) (kindS (tabOf rows)) (hasS (tabOf rows)) w.mem=0:=fun w hw hd=>by
  have hm:eraseT w ∈ rows:=by rw [← hte];exact List.mem_map.2 ⟨w,hw,rfl⟩
  have:=ha.mems _ hm hd
  rw [← whole_erase,← kind_erase,← has_erase,hte]
  exact this
 have hrank:∃ rho,Ranked (tabOf rows) rho:=by
  obtain ⟨rho,hr⟩:=ha.rank
  refine ⟨rho,fun i w hi d hd=>?_⟩
  have:rows[i]?=some (eraseT w):=by rw [← hte];simp [hi]
  obtain ⟨q1,q2,q3⟩:=hr i _ this d hd
  exact ⟨q1,by rw [htl];exact q2,q3⟩
 have hD:∀ w ∈ tabOf rows,w.mem.length≤16777216∧∀ d ∈ deps w,0≤d∧d.toNat<(tabOf rows).length:=fun w hw=>by
  obtain ⟨rho,hr⟩:=hrank
  obtain ⟨i,hi⟩:=List.mem_iff_getElem?.1 hw
  exact ⟨(hsz' w hw).1,fun d hd=>⟨(hr i w hi d hd).1,(hr i w hi d hd).2.1⟩⟩
 obtain ⟨f,st',hwi⟩:=rank_within hrank
 have hl1:(H ++ Z1).length=H.length+Z1.length:=by simp
 have ht2:=ht1.app [.cells (sts (List.replicate rows.length 0))]
 obtain ⟨Y,lp2⟩:=look_loop (.ms (H.length+Z1.length) 0 rows.length 1 rows.length true) (by omega) hsz' hwh hme (tabOf rows).length 0 _ (by omega) ht2
 have hWA:WAt (H ++ Z1 ++ [.cells (sts (List.replicate rows.length 0))] ++ Y) (H.length+1) (H.length+r1) H.length (tabOf rows).length false (tabOf rows) (H.length+Z1.length) (List.replicate rows.length 0):=by
  refine ⟨ht2.app Y,fun x=>?_,?_,?_⟩
  ·rw [List.append_assoc,List.append_assoc,List.getElem?_append_right (by rw [hl1];exact Nat.le_refl _),hl1,Nat.sub_self];rfl
  ·have:=(List.getElem?_eq_some_iff.1 hF1.z1).1;omega
  ·have:=(List.getElem?_eq_some_iff.1 hF1.zr).1;omega
 rw [htl] at hwi
 obtain ⟨G',hG,xG,lp3⟩:=inner_loop (cs:=rows.length) (e2:=true) hD (by omega) (tabOf rows).length 0 _ (List.replicate rows.length 0) st' (by omega) hWA (by simp [htl]) (by rw [htl];exact hwi)
 obtain ⟨Z',hZ,hZj⟩:=ext_split (H:=H) (Z:=Z1 ++ [.cells (sts (List.replicate rows.length 0))] ++ Y) (by rw [← List.append_assoc,← List.append_assoc];exact xG) (Nat.le_add_right _ _)
 have hkeep:∀ j,j<Z1.length→Z'[j]?=Z1[j]?:=fun j hj=>by
  rw [hZj j (by omega) (by simp only [List.length_append];omega),List.append_assoc,List.getElem?_append_left hj]
 have k0:=(List.getElem?_eq_some_iff.1 hF1.z0).1
 have k1:=(List.getElem?_eq_some_iff.1 hF1.z1).1
 have kr:=(List.getElem?_eq_some_iff.1 hF1.zr).1
 refine ⟨Z',r1,es1,ck1,⟨by rw [hkeep 0 k0];exact hF1.z0,by rw [hkeep 1 k1];exact hF1.z1,by rw [hkeep r1 kr];exact hF1.zr,hF1.r2⟩,hK1,?_⟩
 subst hZ
 have hn1:=fun x=>ht1.t x
 have hn0:∀ x,(H ++ (Z0 ++ x))[H.length+1]?=some (.cells [.ms (H.length+r0) 0 11 6 11 false,.mm H.length]):=fun x=>by
  rw [app_get rfl,List.getElem?_append_left (List.getElem?_eq_some_iff.1 hN.z1).1];exact hN.z1
 have hn0':(H ++ Z0)[H.length+1]?=some (.cells [.ms (H.length+r0) 0 11 6 11 false,.mm H.length]):=by simpa using hn0 []
 have hn2:=(ht2.app Y).t0
 have hn3:=ht2.t0
 have hrp:=sts_rep rows.length
 have hroom:roomy rows.length 8=true:=roomy_sm (by omega) (by decide)
 have e1:¬ (rows.length:Int)<11:=by omega
 have e1':(11:Int)≤rows.length:=by omega
 have e2:(rows.length:Int)≤512:=by omega
 have e4:(rows.length:Int)≤9223372036854775807:=by omega
 have hlen:(rows.map trow).length=rows.length:=by simp
 have hZl:∀ x,(H ++ (Z1 ++ x))=H ++ Z1 ++ x:=fun x=>by rw [List.append_assoc]
 rw [htl] at lp2 lp3 hn2 hn3
 simp only [Int.natCast_zero] at lp1 lp2 lp3
 refine Ccall_over rfl rfl rfl rfl ?_
 generalize rows.map trow=A at *
 generalize sts (List.replicate rows.length 0)=B at *
 generalize rows.length=n at *
 simp only [List.append_assoc,List.cons_append,List.nil_append] at lp2 lp3 hn2 hn3 hn1
 clear hcap hsz ha hte htl hN hF0 hF1 ht1 hsz' hwh hme hrank hD hwi ht2 hWA hG xG hZj hkeep k0 k1 kr hZl hlo hhi
 repeat (any_goals first|simp -dsimp (maxSteps:=4000000) (maxDischargeDepth:=8) -implicitDefEqProofs [*,-Int.not_le,-Int.not_lt,amLt,ap4,Nat.add_assoc]|with_reducible (first|apply cB|apply iB)<;>intro _|intro _)
theorem rletter_ok (h:Heap) (c:UInt8):Ccall tab 139 [.int .u8 c.toNat] h=some (.bool (isLt c.toNat),h):=by
 unfold isLt
 refine Ccall_own rfl rfl rfl rfl ?_
 generalize c.toNat=n
 by_cases a1:97≤n
 ·have a1':(97:Int)≤n:=by omega
  by_cases a2:n≤122
  ·have a2':(n:Int)≤122:=by omega
   have e:decide ((65≤n∧n≤90)∨(97≤n∧n≤122)∨n=95)=true:=by simp [a1,a2]
   rw [e]
   clear e a1 a2
   repeat (any_goals first|simp -dsimp (maxSteps:=4000000) (maxDischargeDepth:=8) -implicitDefEqProofs [*,-Int.not_le,-Int.not_lt,amLt]|with_reducible (first|apply cB|apply iB)<;>intro _|intro _)
  ·have a2':¬ (n:Int)≤122:=by omega
   have b1:(65:Int)≤n:=by omega
   have b2:¬ (n:Int)≤90:=by omega
   have b3:¬ (n:Int)=95:=by omega
   have e:decide ((65≤n∧n≤90)∨(97≤n∧n≤122)∨n=95)=false:=decide_eq_false (by omega)
   rw [e]
   clear e a1 a2
   repeat (any_goals first|simp -dsimp (maxSteps:=4000000) (maxDischargeDepth:=8) -implicitDefEqProofs [*,-Int.not_le,-Int.not_lt,amLt]|with_reducible (first|apply cB|apply iB)<;>intro _|intro _)
 ·have a1':¬ (97:Int)≤n:=by omega
  by_cases b1:(65:Int)≤n
  ·by_cases b2:(n:Int)≤90
   ·have e:decide ((65≤n∧n≤90)∨(97≤n∧n≤122)∨n=95)=true:=decide_eq_true (by omega)
    rw [e]
    clear e a1
    repeat (any_goals first|simp -dsimp (maxSteps:=4000000) (maxDischargeDepth:=8) -implicitDefEqProofs [*,-Int.not_le,-Int.not_lt,amLt]|with_reducible (first|apply cB|apply iB)<;>intro _|intro _)
   ·by_cases b3:(n:Int)=95
    ·have e:decide ((65≤n∧n≤90)∨(97≤n∧n≤122)∨n=95)=true:=decide_eq_true (by omega)
     rw [e]
     clear e a1
     repeat (any_goals first|simp -dsimp (maxSteps:=4000000) (maxDischargeDepth:=8) -implicitDefEqProofs [*,-Int.not_le,-Int.not_lt,amLt]|with_reducible (first|apply cB|apply iB)<;>intro _|intro _)
    ·have e:decide ((65≤n∧n≤90)∨(97≤n∧n≤122)∨n=95)=false:=decide_eq_false (by omega)
     rw [e]
     clear e a1
     repeat (any_goals first|simp -dsimp (maxSteps:=4000000) (maxDischargeDepth:=8) -implicitDefEqProofs [*,-Int.not_le,-Int.not_lt,amLt]|with_reducible (first|apply cB|apply iB)<;>intro _|intro _)
  ·have b3:¬ (n:Int)=95:=by omega
   have e:decide ((65≤n∧n≤90)∨(97≤n∧n≤122)∨n=95)=false:=decide_eq_false (by omega)
   rw [e]
   clear e a1
   repeat (any_goals first|simp -dsimp (maxSteps:=4000000) (maxDischargeDepth:=8) -implicitDefEqProofs [*,-Int.not_le,-Int.not_lt,amLt]|with_reducible (first|apply cB|apply iB)<;>intro _|intro _)
theorem rdigit_ok (h:Heap) (c:UInt8):Ccall tab 133 [.int .u8 c.toNat] h=some (.bool (isDg c.toNat),h):=by
 unfold isDg
 refine Ccall_own rfl rfl rfl rfl ?_
 generalize c.toNat=n
 by_cases a1:(48:Int)≤n
 ·by_cases a2:(n:Int)≤57
  ·have e:decide (48≤n∧n≤57)=true:=decide_eq_true (by omega)
   rw [e]
   clear e
   repeat (any_goals first|simp -dsimp (maxSteps:=4000000) (maxDischargeDepth:=8) -implicitDefEqProofs [*,-Int.not_le,-Int.not_lt,amLt]|with_reducible (first|apply cB|apply iB)<;>intro _|intro _)
  ·have e:decide (48≤n∧n≤57)=false:=decide_eq_false (by omega)
   rw [e]
   clear e
   repeat (any_goals first|simp -dsimp (maxSteps:=4000000) (maxDischargeDepth:=8) -implicitDefEqProofs [*,-Int.not_le,-Int.not_lt,amLt]|with_reducible (first|apply cB|apply iB)<;>intro _|intro _)
 ·have e:decide (48≤n∧n≤57)=false:=decide_eq_false (by omega)
  rw [e]
  clear e
  repeat (any_goals first|simp -dsimp (maxSteps:=4000000) (maxDischargeDepth:=8) -implicitDefEqProofs [*,-Int.not_le,-Int.not_lt,amLt]|with_reducible (first|apply cB|apply iB)<;>intro _|intro _)
theorem rlong_ok (h:Heap) (n:Int):Ccall tab 116 [.int .i64 n] h=some (.bool (longS n),h):=by
 unfold longS
 refine Ccall_own rfl rfl rfl rfl ?_
 by_cases h1:n = -1
 ·subst h1
  repeat (any_goals first|simp -dsimp (maxSteps:=4000000) (maxDischargeDepth:=8) -implicitDefEqProofs [*,-Int.not_le,-Int.not_lt,amLt]|with_reducible (first|apply cB|apply iB)<;>intro _|intro _)
 ·by_cases h2:(1:Int)≤n
  ·by_cases h3:n≤16384
   ·repeat (any_goals first|simp -dsimp (maxSteps:=4000000) (maxDischargeDepth:=8) -implicitDefEqProofs [*,-Int.not_le,-Int.not_lt,amLt]|with_reducible (first|apply cB|apply iB)<;>intro _|intro _)
   ·repeat (any_goals first|simp -dsimp (maxSteps:=4000000) (maxDischargeDepth:=8) -implicitDefEqProofs [*,-Int.not_le,-Int.not_lt,amLt]|with_reducible (first|apply cB|apply iB)<;>intro _|intro _)
  ·repeat (any_goals first|simp -dsimp (maxSteps:=4000000) (maxDischargeDepth:=8) -implicitDefEqProofs [*,-Int.not_le,-Int.not_lt,amLt]|with_reducible (first|apply cB|apply iB)<;>intro _|intro _)
theorem rwidth_ok (h:Heap) (k:Int):Ccall tab 102 [.int .i64 k] h=some (.int .i64 (widthS k),h):=by
 refine Ccall_own rfl rfl rfl rfl ?_
 by_cases q:2≤k∧k≤13
 ·have:k=2∨k=3∨k=4∨k=5∨k=6∨k=7∨k=8∨k=9∨k=10∨k=11∨k=12∨k=13:=by omega
  rcases this with rfl|rfl|rfl|rfl|rfl|rfl|rfl|rfl|rfl|rfl|rfl|rfl<;>clear q
  ·repeat (any_goals first|simp -dsimp (maxSteps:=4000000) (maxDischargeDepth:=8) -implicitDefEqProofs [*,-Int.not_le,-Int.not_lt,amLt,widthS]|with_reducible (first|apply cB|apply iB)<;>intro _|intro _)
  ·repeat (any_goals first|simp -dsimp (maxSteps:=4000000) (maxDischargeDepth:=8) -implicitDefEqProofs [*,-Int.not_le,-Int.not_lt,amLt,widthS]|with_reducible (first|apply cB|apply iB)<;>intro _|intro _)
  ·repeat (any_goals first|simp -dsimp (maxSteps:=4000000) (maxDischargeDepth:=8) -implicitDefEqProofs [*,-Int.not_le,-Int.not_lt,amLt,widthS]|with_reducible (first|apply cB|apply iB)<;>intro _|intro _)
  ·repeat (any_goals first|simp -dsimp (maxSteps:=4000000) (maxDischargeDepth:=8) -implicitDefEqProofs [*,-Int.not_le,-Int.not_lt,amLt,widthS]|with_reducible (first|apply cB|apply iB)<;>intro _|intro _)
  ·repeat (any_goals first|simp -dsimp (maxSteps:=4000000) (maxDischargeDepth:=8) -implicitDefEqProofs [*,-Int.not_le,-Int.not_lt,amLt,widthS]|with_reducible (first|apply cB|apply iB)<;>intro _|intro _)
  ·repeat (any_goals first|simp -dsimp (maxSteps:=4000000) (maxDischargeDepth:=8) -implicitDefEqProofs [*,-Int.not_le,-Int.not_lt,amLt,widthS]|with_reducible (first|apply cB|apply iB)<;>intro _|intro _)
  ·repeat (any_goals first|simp -dsimp (maxSteps:=4000000) (maxDischargeDepth:=8) -implicitDefEqProofs [*,-Int.not_le,-Int.not_lt,amLt,widthS]|with_reducible (first|apply cB|apply iB)<;>intro _|intro _)
  ·repeat (any_goals first|simp -dsimp (maxSteps:=4000000) (maxDischargeDepth:=8) -implicitDefEqProofs [*,-Int.not_le,-Int.not_lt,amLt,widthS]|with_reducible (first|apply cB|apply iB)<;>intro _|intro _)
  ·repeat (any_goals first|simp -dsimp (maxSteps:=4000000) (maxDischargeDepth:=8) -implicitDefEqProofs [*,-Int.not_le,-Int.not_lt,amLt,widthS]|with_reducible (first|apply cB|apply iB)<;>intro _|intro _)
  ·repeat (any_goals first|simp -dsimp (maxSteps:=4000000) (maxDischargeDepth:=8) -implicitDefEqProofs [*,-Int.not_le,-Int.not_lt,amLt,widthS]|with_reducible (first|apply cB|apply iB)<;>intro _|intro _)
  ·repeat (any_goals first|simp -dsimp (maxSteps:=4000000) (maxDischargeDepth:=8) -implicitDefEqProofs [*,-Int.not_le,-Int.not_lt,amLt,widthS]|with_reducible (first|apply cB|apply iB)<;>intro _|intro _)
  ·repeat (any_goals first|simp -dsimp (maxSteps:=4000000) (maxDischargeDepth:=8) -implicitDefEqProofs [*,-Int.not_le,-Int.not_lt,amLt,widthS]|with_reducible (first|apply cB|apply iB)<;>intro _|intro _)
 ·have e:widthS k=0:=by unfold widthS;rw [if_neg (by omega),if_neg (by omega),if_neg (by omega)]
  rw [e]
  have n2:¬ k=2:=by omega
  have n3:¬ k=3:=by omega
  have n4:¬ k=4:=by omega
  have n5:¬ k=5:=by omega
  have n6:¬ k=6:=by omega
  have n7:¬ k=7:=by omega
  have n8:¬ k=8:=by omega
  have n9:¬ k=9:=by omega
  have n10:¬ k=10:=by omega
  have n11:¬ k=11:=by omega
  have n12:¬ k=12:=by omega
  have n13:¬ k=13:=by omega
  clear q e
  repeat (any_goals first|simp -dsimp (maxSteps:=4000000) (maxDischargeDepth:=8) -implicitDefEqProofs [*,-Int.not_le,-Int.not_lt,amLt]|with_reducible (first|apply cB|apply iB)<;>intro _|intro _)
theorem rtail_loop (s:List UInt8) (hs:s.length≤16777216) (h:Heap):∀ (r:List UInt8) (i:Nat),s.drop i=r→i≤s.length →
  Brun tab 36 (.loop f132l4) (ofL [(0,.str s),(3,.int .i64 i)]) h =
   if (r.all fun c=>isTl c.toNat)=true then some (.exit 0,ofL [(0,.str s),(3,.int .i64 s.length),(21,.bool false)],h) else some (.ret,ofL [(2,.bool false)],h):=by
 intro r
 induction r with
 | nil =>
  intro i hr hi
  have hlen:=congrArg List.length hr
  simp only [List.length_drop,List.length_nil] at hlen
  have e2:(s.length:Int)=i:=by omega
  rw [Brun_loop,List.all_nil,if_pos rfl]
  clear hs hr hi hlen
  repeat (any_goals first|simp -dsimp (maxSteps:=4000000) (maxDischargeDepth:=8) -implicitDefEqProofs [*,-Int.not_le,-Int.not_lt,amLt]|with_reducible (first|apply cB|apply iB)<;>intro _|intro _)
 | cons c r ih =>
  intro i hr hi
  have hlen:=congrArg List.length hr
  simp only [List.length_drop,List.length_cons] at hlen
  have hb:s[i]?=some c:=by
   have:=congrArg (·[0]?) hr
   simpa using this
  have htl:s.drop (i+1)=r:=by
   have:=congrArg List.tail hr
   simpa using this
  have e3:¬ (s.length:Int)≤i:=by omega
  have hw:=cw64 i (by omega)
  have ih2:=ih (i+1) htl (by omega)
  push_cast at ih2
  have hL:=fun h=>rletter_ok h c
  have hD:=fun h=>rdigit_ok h c
  rw [Brun_loop,List.all_cons,show isTl c.toNat=(isLt c.toNat || isDg c.toNat) from rfl]
  generalize (r.all fun c=>isTl c.toNat)=q at *
  clear ih hs hi hr hlen htl
  cases hl:isLt c.toNat with
  | true =>
   rw [hl] at hL
   simp only [Bool.true_or,Bool.true_and]
   repeat (any_goals first|simp -dsimp (maxSteps:=4000000) (maxDischargeDepth:=8) -implicitDefEqProofs [*,-Int.not_le,-Int.not_lt,amLt]|with_reducible (first|apply cB|apply iB)<;>intro _|intro _)
  | false =>
   rw [hl] at hL
   cases hd:isDg c.toNat with
   | true =>
    rw [hd] at hD
    simp only [Bool.or_true,Bool.true_and]
    repeat (any_goals first|simp -dsimp (maxSteps:=4000000) (maxDischargeDepth:=8) -implicitDefEqProofs [*,-Int.not_le,-Int.not_lt,amLt]|with_reducible (first|apply cB|apply iB)<;>intro _|intro _)
   | false =>
    rw [hd] at hD
    simp only [Bool.or_self,Bool.false_and]
    repeat (any_goals first|simp -dsimp (maxSteps:=4000000) (maxDischargeDepth:=8) -implicitDefEqProofs [*,-Int.not_le,-Int.not_lt,amLt]|with_reducible (first|apply cB|apply iB)<;>intro _|intro _)
theorem rword_ok (h:Heap) (s:List UInt8) (hs:s.length≤16777216):Ccall tab 132 [.str s] h=some (.bool (wordS s),h):=by
 refine Ccall_own rfl rfl rfl rfl ?_
 cases s with
 | nil =>
  clear hs
  repeat (any_goals first|simp -dsimp (maxSteps:=4000000) (maxDischargeDepth:=8) -implicitDefEqProofs [*,-Int.not_le,-Int.not_lt,amLt,wordS]|with_reducible (first|apply cB|apply iB)<;>intro _|intro _)
 | cons b t =>
  have lp:=rtail_loop (b :: t) hs [] t 1 rfl (by simp)
  simp only [Int.natCast_one] at lp
  have hL:=fun h=>rletter_ok h b
  have h1:¬ ((b :: t).length:Int)<1:=by simp only [List.length_cons];omega
  have hb:(b :: t)[0]?=some b:=rfl
  rw [show wordS (b :: t)=(isLt b.toNat && (t.all fun c=>isTl c.toNat) && decide ((b :: t).length≤63)) from rfl]
  generalize (t.all fun c=>isTl c.toNat)=q at *
  generalize b :: t=s at *
  by_cases h63:s.length≤63
  ·have h2:¬ (63:Int)<s.length:=by omega
   have e:decide (s.length≤63)=true:=by simpa using h63
   rw [e]
   clear hs e h63
   cases hl:isLt b.toNat
   ·rw [hl] at hL
    repeat (any_goals first|simp -dsimp (maxSteps:=4000000) (maxDischargeDepth:=8) -implicitDefEqProofs [*,-Int.not_le,-Int.not_lt,amLt]|with_reducible (first|apply cB|apply iB)<;>intro _|intro _)
   ·rw [hl] at hL
    cases q
    ·repeat (any_goals first|simp -dsimp (maxSteps:=4000000) (maxDischargeDepth:=8) -implicitDefEqProofs [*,-Int.not_le,-Int.not_lt,amLt]|with_reducible (first|apply cB|apply iB)<;>intro _|intro _)
    ·repeat (any_goals first|simp -dsimp (maxSteps:=4000000) (maxDischargeDepth:=8) -implicitDefEqProofs [*,-Int.not_le,-Int.not_lt,amLt]|with_reducible (first|apply cB|apply iB)<;>intro _|intro _)
  ·have h2:(63:Int)<s.length:=by omega
   have e:decide (s.length≤63)=false:=by simpa using h63
   rw [e,Bool.and_false]
   clear hs e h63 lp hL
   repeat (any_goals first|simp -dsimp (maxSteps:=4000000) (maxDischargeDepth:=8) -implicitDefEqProofs [*,-Int.not_le,-Int.not_lt,amLt]|with_reducible (first|apply cB|apply iB)<;>intro _|intro _)
theorem rdig_loop (s:List UInt8) (hs:s.length≤16777216) (h:Heap):∀ (r:List UInt8) (i:Nat),s.drop i=r→i≤s.length →
  Brun tab 30 (.loop f114l4) (ofL [(0,.str s),(3,.int .i64 i)]) h =
   if (r.all fun c=>isDg c.toNat)=true then some (.exit 0,ofL [(0,.str s),(3,.int .i64 s.length),(22,.bool false)],h) else some (.ret,ofL [(2,.bool false)],h):=by
 intro r
 induction r with
 | nil =>
  intro i hr hi
  have hlen:=congrArg List.length hr
  simp only [List.length_drop,List.length_nil] at hlen
  have e2:(s.length:Int)=i:=by omega
  rw [Brun_loop,List.all_nil,if_pos rfl]
  clear hs hr hi hlen
  repeat (any_goals first|simp -dsimp (maxSteps:=4000000) (maxDischargeDepth:=8) -implicitDefEqProofs [*,-Int.not_le,-Int.not_lt,amLt]|with_reducible (first|apply cB|apply iB)<;>intro _|intro _)
 | cons c r ih =>
  intro i hr hi
  have hlen:=congrArg List.length hr
  simp only [List.length_drop,List.length_cons] at hlen
  have hb:s[i]?=some c:=by
   have:=congrArg (·[0]?) hr
   simpa using this
  have htl:s.drop (i+1)=r:=by
   have:=congrArg List.tail hr
   simpa using this
  have e3:¬ (s.length:Int)≤i:=by omega
  have hw:=cw64 i (by omega)
  have ih2:=ih (i+1) htl (by omega)
  push_cast at ih2
  have hD:=fun h=>rdigit_ok h c
  rw [Brun_loop,List.all_cons]
  generalize (r.all fun c=>isDg c.toNat)=q at *
  clear ih hs hi hr hlen htl
  cases hd:isDg c.toNat with
  | true =>
   rw [hd] at hD
   simp only [Bool.true_and]
   repeat (any_goals first|simp -dsimp (maxSteps:=4000000) (maxDischargeDepth:=8) -implicitDefEqProofs [*,-Int.not_le,-Int.not_lt,amLt]|with_reducible (first|apply cB|apply iB)<;>intro _|intro _)
  | false =>
   rw [hd] at hD
   simp only [Bool.false_and]
   repeat (any_goals first|simp -dsimp (maxSteps:=4000000) (maxDischargeDepth:=8) -implicitDefEqProofs [*,-Int.not_le,-Int.not_lt,amLt]|with_reducible (first|apply cB|apply iB)<;>intro _|intro _)
theorem wordS_hash (t:List UInt8):wordS (35 :: t)=false:=by
 show (isLt (35:UInt8).toNat && (t.all fun c=>isTl c.toNat) && decide (((35:UInt8) :: t).length≤63))=false
 rw [show isLt (35:UInt8).toNat=false from by decide]
 rfl
theorem rtag_ok (h:Heap) (s:List UInt8) (hs:s.length≤16777216):Ccall tab 114 [.str s] h=some (.bool (tagS s),h):=by
 have hW:=fun h=>rword_ok h s hs
 refine Ccall_own rfl rfl rfl rfl ?_
 cases s with
 | nil =>
  clear hs
  rw [show wordS []=false from rfl] at hW
  rw [show tagS []=false from rfl]
  repeat (any_goals first|simp -dsimp (maxSteps:=4000000) (maxDischargeDepth:=8) -implicitDefEqProofs [*,-Int.not_le,-Int.not_lt,amLt]|with_reducible (first|apply cB|apply iB)<;>intro _|intro _)
 | cons b t =>
  have hl1:((b :: t).length:Int)=(t.length:Int)+1:=by simp only [List.length_cons];omega
  have hb:(b :: t)[0]?=some b:=rfl
  by_cases q:b=35
  ·subst q
   rw [wordS_hash] at hW
   have e:tagS (35 :: t)=(decide (t≠[]) && decide (t.length≤9) && t.all (fun c=>isDg c.toNat)):=by simp [tagS]
   rw [e]
   have lp:=rdig_loop (35 :: t) hs [] t 1 rfl (by simp)
   simp only [Int.natCast_one] at lp
   generalize (t.all fun c=>isDg c.toNat)=z at *
   by_cases h0:t=[]
   ·have h1:((35 :: t).length:Int)<2:=by rw [hl1,h0];decide
    have e2:(decide (t≠[]) && decide (t.length≤9) && z)=false:=by simp [h0]
    rw [e2]
    generalize 35 :: t=s at *
    clear hs e e2 h0 lp hl1
    repeat (any_goals first|simp -dsimp (maxSteps:=4000000) (maxDischargeDepth:=8) -implicitDefEqProofs [*,-Int.not_le,-Int.not_lt,amLt]|with_reducible (first|apply cB|apply iB)<;>intro _|intro _)
   ·have hp:0<t.length:=List.length_pos_iff.2 h0
    have h1:¬ ((35 :: t).length:Int)<2:=by rw [hl1];omega
    by_cases h9:t.length≤9
    ·have h2:¬ (10:Int)<((35 :: t).length:Int):=by rw [hl1];omega
     have e2:(decide (t≠[]) && decide (t.length≤9) && z)=z:=by simp [h0,h9]
     rw [e2]
     have hb2:((35:UInt8).toNat:Int)=35:=rfl
     generalize 35 :: t=s at *
     clear hs e e2 h0 hl1 h9 hp hW
     cases z
     ·repeat (any_goals first|simp -dsimp (maxSteps:=4000000) (maxDischargeDepth:=8) -implicitDefEqProofs [*,-Int.not_le,-Int.not_lt,amLt]|with_reducible (first|apply cB|apply iB)<;>intro _|intro _)
     ·repeat (any_goals first|simp -dsimp (maxSteps:=4000000) (maxDischargeDepth:=8) -implicitDefEqProofs [*,-Int.not_le,-Int.not_lt,amLt]|with_reducible (first|apply cB|apply iB)<;>intro _|intro _)
    ·have h2:(10:Int)<((35 :: t).length:Int):=by rw [hl1];omega
     have e2:(decide (t≠[]) && decide (t.length≤9) && z)=false:=by simp [h9]
     rw [e2]
     generalize 35 :: t=s at *
     clear hs e e2 h0 lp hl1 h9 hp
     repeat (any_goals first|simp -dsimp (maxSteps:=4000000) (maxDischargeDepth:=8) -implicitDefEqProofs [*,-Int.not_le,-Int.not_lt,amLt]|with_reducible (first|apply cB|apply iB)<;>intro _|intro _)
  ·have e:tagS (b :: t)=wordS (b :: t):=by simp [tagS,q]
   rw [e]
   have hb2:¬ (b.toNat:Int)=35:=by
    intro h
    refine q (UInt8.toNat_inj.1 ?_)
    have:(35:UInt8).toNat=35:=rfl
    omega
   generalize b :: t=s at *
   clear hs e q
   by_cases h1:(s.length:Int)<2
   ·repeat (any_goals first|simp -dsimp (maxSteps:=4000000) (maxDischargeDepth:=8) -implicitDefEqProofs [*,-Int.not_le,-Int.not_lt,amLt]|with_reducible (first|apply cB|apply iB)<;>intro _|intro _)
   ·by_cases h2:(10:Int)<s.length
    ·repeat (any_goals first|simp -dsimp (maxSteps:=4000000) (maxDischargeDepth:=8) -implicitDefEqProofs [*,-Int.not_le,-Int.not_lt,amLt]|with_reducible (first|apply cB|apply iB)<;>intro _|intro _)
    ·repeat (any_goals first|simp -dsimp (maxSteps:=4000000) (maxDischargeDepth:=8) -implicitDefEqProofs [*,-Int.not_le,-Int.not_lt,amLt]|with_reducible (first|apply cB|apply iB)<;>intro _|intro _)
section
variable {H:Heap} {T:Nat} {rows:List TR} {c:Cap}
theorem hasS_dec (rows:List TR) (id:Int):hasS rows id=(decide (0≤id) && decide (id<rows.length)):=by
 unfold hasS getT
 by_cases h0:0≤id
 ·rw [if_pos h0]
  by_cases h1:id<rows.length
  ·rw [List.getElem?_eq_getElem (by omega)];simp [h0,h1]
  ·rw [List.getElem?_eq_none (by omega)];simp [h1]
 ·rw [if_neg h0];simp [h0]
theorem rhas_ok (hT:H[T]?=some (.cells [.is (rows.map trow) c])) (id:Int):Ccall tab 7 [.mp T 0,.int .i64 id] H=some (.bool (hasS rows id),H):=by
 rw [hasS_dec]
 have hl:(rows.map trow).length=rows.length:=List.length_map ..
 generalize rows.map trow=X at *
 rw [← hl]
 clear hl
 refine Ccall_over rfl rfl rfl rfl ?_
 by_cases h0:0≤id
 ·repeat (any_goals first|simp -dsimp (maxSteps:=4000000) (maxDischargeDepth:=8) -implicitDefEqProofs [*,-Int.not_le,-Int.not_lt,amLt]|with_reducible (first|apply cB|apply iB)<;>intro _|intro _)
 ·repeat (any_goals first|simp -dsimp (maxSteps:=4000000) (maxDischargeDepth:=8) -implicitDefEqProofs [*,-Int.not_le,-Int.not_lt,amLt]|with_reducible (first|apply cB|apply iB)<;>intro _|intro _)
theorem rkind_ok (hT:H[T]?=some (.cells [.is (rows.map trow) c])) (id:Int):Ccall tab 10 [.mp T 0,.int .i64 id] H=some (.int .i64 (kindS rows id),H):=by
 have hh:=rhas_ok hT id
 unfold kindS
 unfold hasS at hh
 refine Ccall_over rfl rfl rfl rfl ?_
 cases hg:getT rows id with
 | none =>
  rw [hg] at hh
  clear hg
  repeat (any_goals first|simp -dsimp (maxSteps:=4000000) (maxDischargeDepth:=8) -implicitDefEqProofs [*,-Int.not_le,-Int.not_lt,amLt]|with_reducible (first|apply cB|apply iB)<;>intro _|intro _)
 | some r =>
  rw [hg] at hh
  unfold getT at hg
  split at hg
  ·rename_i h0
   have hr:(rows.map trow)[id.toNat]?=some (trow r):=by rw [List.getElem?_map,hg];rfl
   have hlt:id.toNat<(rows.map trow).length:=(List.getElem?_eq_some_iff.1 hr).1
   have hr2:∀ hh:id.toNat<(rows.map trow).length,(rows.map trow)[id.toNat]=trow r:=fun hh=>(List.getElem?_eq_some_iff.1 hr).2
   have h1:id<(rows.map trow).length:=by omega
   generalize rows.map trow=X at *
   unfold trow at hr hr2
   clear hg
   repeat (any_goals first|simp -dsimp (maxSteps:=4000000) (maxDischargeDepth:=8) -implicitDefEqProofs [*,-Int.not_le,-Int.not_lt,amLt]|with_reducible (first|apply cB|apply iB)<;>intro _|intro _)
  ·cases hg
theorem rinteger_ok (hT:H[T]?=some (.cells [.is (rows.map trow) c])) (id:Int):Ccall tab 11 [.mp T 0,.int .i64 id] H=some (.bool (decide (1<kindS rows id) && decide (kindS rows id≤12)),H):=by
 have hh:=rkind_ok hT id
 generalize kindS rows id=k at *
 refine Ccall_over rfl rfl rfl rfl ?_
 by_cases h0:1<k
 ·repeat (any_goals first|simp -dsimp (maxSteps:=4000000) (maxDischargeDepth:=8) -implicitDefEqProofs [*,-Int.not_le,-Int.not_lt,amLt]|with_reducible (first|apply cB|apply iB)<;>intro _|intro _)
 ·repeat (any_goals first|simp -dsimp (maxSteps:=4000000) (maxDischargeDepth:=8) -implicitDefEqProofs [*,-Int.not_le,-Int.not_lt,amLt]|with_reducible (first|apply cB|apply iB)<;>intro _|intro _)
theorem rrecord_ok (hT:H[T]?=some (.cells [.is (rows.map trow) c])) (id:Int):Ccall tab 16 [.mp T 0,.int .i64 id] H=some (.bool (decide (kindS rows id=15∨kindS rows id=16)),H):=by
 have hh:=rkind_ok hT id
 generalize kindS rows id=k at *
 refine Ccall_over rfl rfl rfl rfl ?_
 by_cases h0:k=15
 ·subst h0
  repeat (any_goals first|simp -dsimp (maxSteps:=4000000) (maxDischargeDepth:=8) -implicitDefEqProofs [*,-Int.not_le,-Int.not_lt,amLt]|with_reducible (first|apply cB|apply iB)<;>intro _|intro _)
 ·by_cases h1:k=16
  ·subst h1
   repeat (any_goals first|simp -dsimp (maxSteps:=4000000) (maxDischargeDepth:=8) -implicitDefEqProofs [*,-Int.not_le,-Int.not_lt,amLt]|with_reducible (first|apply cB|apply iB)<;>intro _|intro _)
  ·repeat (any_goals first|simp -dsimp (maxSteps:=4000000) (maxDischargeDepth:=8) -implicitDefEqProofs [*,-Int.not_le,-Int.not_lt,amLt]|with_reducible (first|apply cB|apply iB)<;>intro _|intro _)
theorem rwhole_ok (hT:H[T]?=some (.cells [.is (rows.map trow) c])) (id:Int):Ccall tab 110 [.mp T 0,.int .i64 id] H=some (.bool (rwholeS rows id),H):=by
 have hk:=rkind_ok hT id
 have hrc:=rrecord_ok hT id
 unfold kindS at hk hrc
 unfold rwholeS
 refine Ccall_over rfl rfl rfl rfl ?_
 cases hg:getT rows id with
 | none =>
  simp only [hg] at hk hrc
  clear hg
  repeat (any_goals first|simp -dsimp (maxSteps:=4000000) (maxDischargeDepth:=8) -implicitDefEqProofs [*,-Int.not_le,-Int.not_lt,amLt]|with_reducible (first|apply cB|apply iB)<;>intro _|intro _)
 | some r =>
  simp only [hg] at hk hrc
  unfold getT at hg
  split at hg
  ·rename_i h0
   have hr:(rows.map trow)[id.toNat]?=some (trow r):=by rw [List.getElem?_map,hg];rfl
   have hlt:id.toNat<(rows.map trow).length:=(List.getElem?_eq_some_iff.1 hr).1
   have hr2:∀ hh:id.toNat<(rows.map trow).length,(rows.map trow)[id.toNat]=trow r:=fun hh=>(List.getElem?_eq_some_iff.1 hr).2
   have h1:id<(rows.map trow).length:=by omega
   generalize rows.map trow=X at *
   unfold trow at hr hr2
   clear hg
   dsimp only
   unfold rwholeR
   by_cases k14:r.kind=14
   ·repeat (any_goals first|simp -dsimp (maxSteps:=4000000) (maxDischargeDepth:=8) -implicitDefEqProofs [*,-Int.not_le,-Int.not_lt,amLt]|with_reducible (first|apply cB|apply iB)<;>intro _|intro _)
   ·by_cases k15:r.kind=15
    ·repeat (any_goals first|simp -dsimp (maxSteps:=4000000) (maxDischargeDepth:=8) -implicitDefEqProofs [*,-Int.not_le,-Int.not_lt,amLt]|with_reducible (first|apply cB|apply iB)<;>intro _|intro _)
    ·by_cases k16:r.kind=16
     ·repeat (any_goals first|simp -dsimp (maxSteps:=4000000) (maxDischargeDepth:=8) -implicitDefEqProofs [*,-Int.not_le,-Int.not_lt,amLt]|with_reducible (first|apply cB|apply iB)<;>intro _|intro _)
     ·repeat (any_goals first|simp -dsimp (maxSteps:=4000000) (maxDischargeDepth:=8) -implicitDefEqProofs [*,-Int.not_le,-Int.not_lt,amLt]|with_reducible (first|apply cB|apply iB)<;>intro _|intro _)
  ·cases hg
theorem rbits_ok (hT:H[T]?=some (.cells [.is (rows.map trow) c])) (id bits:Int):Ccall tab 140 [.mp T 0,.int .i64 id,.int .i64 bits] H=some (.bool (decide (bits = -1) || wideK (kindS rows id) bits),H):=by
 have hk:=rkind_ok hT id
 have hi:=rinteger_ok hT id
 have hw:=rwidth_ok H (kindS rows id)
 have wr:IntKind.i64.wrap (8*widthS (kindS rows id))=8*widthS (kindS rows id):=by
  have:0≤widthS (kindS rows id)∧widthS (kindS rows id)≤4:=by
   unfold widthS;split;omega;split;omega;split;omega;omega
  exact IntWalk.i64_in _ (by omega)
 unfold wideK
 generalize kindS rows id=k at *
 generalize widthS k=w at *
 refine Ccall_over rfl rfl rfl rfl ?_
 by_cases m1:bits = -1
 ·subst m1
  clear hk hi hw wr
  repeat (any_goals first|simp -dsimp (maxSteps:=4000000) (maxDischargeDepth:=8) -implicitDefEqProofs [*,-Int.not_le,-Int.not_lt,amLt]|with_reducible (first|apply cB|apply iB)<;>intro _|intro _)
 ·have e0:decide (bits = -1)=false:=decide_eq_false m1
  rw [e0,Bool.false_or]
  by_cases k1:k<2
  ·have q1:¬ (1:Int)<k:=by omega
   have k2:¬ k=2:=by omega
   repeat (any_goals first|simp -dsimp (maxSteps:=4000000) (maxDischargeDepth:=8) -implicitDefEqProofs [*,-Int.not_le,-Int.not_lt,amLt]|with_reducible (first|apply cB|apply iB)<;>intro _|intro _)
  ·have q1:(1:Int)<k:=by omega
   by_cases k2:12<k
   ·have q2:¬ k≤12:=by omega
    have k2':¬ k=2:=by omega
    repeat (any_goals first|simp -dsimp (maxSteps:=4000000) (maxDischargeDepth:=8) -implicitDefEqProofs [*,-Int.not_le,-Int.not_lt,amLt]|with_reducible (first|apply cB|apply iB)<;>intro _|intro _)
   ·have q2:k≤12:=by omega
    by_cases b0:bits<0
    ·have b1:¬ (0:Int)≤bits:=by omega
     by_cases k3:k=2
     ·subst k3
      repeat (any_goals first|simp -dsimp (maxSteps:=4000000) (maxDischargeDepth:=8) -implicitDefEqProofs [*,-Int.not_le,-Int.not_lt,amLt]|with_reducible (first|apply cB|apply iB)<;>intro _|intro _)
     ·repeat (any_goals first|simp -dsimp (maxSteps:=4000000) (maxDischargeDepth:=8) -implicitDefEqProofs [*,-Int.not_le,-Int.not_lt,amLt]|with_reducible (first|apply cB|apply iB)<;>intro _|intro _)
    ·have b1:(0:Int)≤bits:=by omega
     rw [if_neg (by omega)]
     by_cases k3:k=2
     ·subst k3
      repeat (any_goals first|simp -dsimp (maxSteps:=4000000) (maxDischargeDepth:=8) -implicitDefEqProofs [*,-Int.not_le,-Int.not_lt,amLt]|with_reducible (first|apply cB|apply iB)<;>intro _|intro _)
     ·repeat (any_goals first|simp -dsimp (maxSteps:=4000000) (maxDischargeDepth:=8) -implicitDefEqProofs [*,-Int.not_le,-Int.not_lt,amLt]|with_reducible (first|apply cB|apply iB)<;>intro _|intro _)
end
theorem dup_loop (l:List Mem) (c0:Cap) (i:Nat) (hi:i<l.length) (hl:l.length≤64) (nm:List UInt8) (ty bits:Int) (N:Nat) (G:Heap) (hG:G[N]?=some (.cells [.str nm,.int .i64 ty,.int .i64 bits])):∀ (n j:Nat),j+n=i →
  Brun tab 58 (.loop f134l15) (ofL [(1,.is (memRows l) c0),(2,.int .i64 i),(7,.mp N 0),(8,.int .i64 j)]) G =
   if nm ∈ ((l.take i).drop j).map (·.1) then some (.ret,ofL [(6,.int .i64 31)],G) else some (.exit 0,ofL [(1,.is (memRows l) c0),(2,.int .i64 i),(7,.mp N 0),(8,.int .i64 i),(47,.bool false)],G):=by
 intro n
 induction n with
 | zero =>
  intro j hj
  have e:(l.take i).drop j=[]:=List.drop_eq_nil_of_le (by rw [List.length_take];omega)
  have e2:(i:Int)=j:=by omega
  rw [e,Brun_loop,if_neg (by simp)]
  clear e hj hi hl
  repeat (any_goals first|simp -dsimp (maxSteps:=4000000) (maxDischargeDepth:=8) -implicitDefEqProofs [*,-Int.not_le,-Int.not_lt,amLt]|with_reducible (first|apply cB|apply iB)<;>intro _|intro _)
 | succ n ih =>
  intro j hj
  have hjl:j<l.length:=by omega
  have e:(l.take i).drop j=l[j] :: (l.take i).drop (j+1):=by
   rw [List.drop_eq_getElem_cons (by rw [List.length_take];omega),List.getElem_take]
  have ih2:=ih (j+1) (by omega)
  have hml:=memRows_len l
  have hrow:(memRows l)[j]?=some (memRow l[j]):=by simp [memRows,List.getElem?_eq_getElem hjl]
  have hrow2:∀ hh:j<(memRows l).length,(memRows l)[j]=memRow l[j]:=fun hh=>(List.getElem?_eq_some_iff.1 hrow).2
  have h1:(j:Int)<l.length:=by omega
  have e3:¬ (i:Int)≤j:=by omega
  have e4:(j:Int)<i:=by omega
  have hw:=cw64 j (by omega)
  push_cast at ih2
  rw [e,Brun_loop,List.map_cons]
  generalize ((l.take i).drop (j+1)).map (·.1)=q at *
  generalize memRows l=X at *
  generalize l[j]=w at *
  obtain ⟨mn,mt,mb⟩:=w
  unfold memRow at hrow hrow2
  dsimp only at *
  clear ih hi hl hj e
  by_cases q1:mn=nm
  ·subst q1
   rw [if_pos (by simp)]
   clear ih2
   repeat (any_goals first|simp -dsimp (maxSteps:=4000000) (maxDischargeDepth:=8) -implicitDefEqProofs [*,-Int.not_le,-Int.not_lt,amLt]|with_reducible (first|apply cB|apply iB)<;>intro _|intro _)
  ·have q2:¬ nm=mn:=fun e=>q1 e.symm
   simp only [List.mem_cons,q2,false_or]
   repeat (any_goals first|simp -dsimp (maxSteps:=4000000) (maxDischargeDepth:=8) -implicitDefEqProofs [*,-Int.not_le,-Int.not_lt,amLt]|with_reducible (first|apply cB|apply iB)<;>intro _|intro _)
section
variable {H:Heap} {T:Nat} {rows:List TR} {c:Cap}
theorem rapp {H:Heap} {T:Nat} {b:Blk} (h:H[T]?=some b) (X:Heap):(H ++ X)[T]?=some b:=by
 rw [List.getElem?_append_left (List.getElem?_eq_some_iff.1 h).1];exact h
theorem rmember_ok (hT:H[T]?=some (.cells [.is (rows.map trow) c])) (l:List Mem) (c0:Cap) (hl:l.length≤64) (i:Nat) (m:Mem) (hi:l[i]?=some m) (hn:m.1.length≤1048576) :
  Ccall tab 134 [.mp T 0,.is (memRows l) c0,.int .i64 i] H=some (.int .i64 (memE (rwholeS rows) (kindS rows) (hasS rows) ((l.take i).map (·.1)) m),H ++ [.cells (memRow m)]):=by
 have hlt:=(List.getElem?_eq_some_iff.1 hi).1
 have hT2:=rapp hT [.cells (memRow m)]
 have hh:=rhas_ok hT2 m.2.1
 have hw:=rwhole_ok hT2 m.2.1
 have hd:=rbits_ok hT2 m.2.1 m.2.2
 have hle:=fun h=>rword_ok h m.1 (by omega)
 have hrow:(memRows l)[i]?=some (memRow m):=by simp [memRows,hi]
 have hrow2:∀ hh:i<(memRows l).length,(memRows l)[i]=memRow m:=fun hh=>(List.getElem?_eq_some_iff.1 hrow).2
 have hml:=memRows_len l
 have h1:(i:Int)<l.length:=by omega
 obtain ⟨nm,ty,bits⟩:=m
 have lp:=dup_loop l c0 i hlt hl nm ty bits H.length (H ++ [.cells [.str nm,.int .i64 ty,.int .i64 bits]]) (by simp) i 0 (by omega)
 rw [List.drop_zero] at lp
 simp only [Int.natCast_zero] at lp
 unfold memE
 unfold memRow at *
 dsimp only at *
 generalize hk:wideK (kindS rows ty) bits=wd at *
 generalize (l.take i).map (·.1)=seen at *
 refine Ccall_over rfl rfl rfl rfl ?_
 clear hT hT2 hlt hl hi hn
 cases ha:hasS rows ty with
 | false =>
  rw [ha] at hh
  clear hw hd hle hk lp
  rw [if_pos rfl]
  repeat (any_goals first|simp -dsimp (maxSteps:=4000000) (maxDischargeDepth:=8) -implicitDefEqProofs [*,-Int.not_le,-Int.not_lt,amLt,ap4]|with_reducible (first|apply cB|apply iB)<;>intro _|intro _)
 | true =>
  rw [ha] at hh
  rw [if_neg (by simp)]
  cases hb:rwholeS rows ty with
  | false =>
   rw [hb] at hw
   rw [if_pos rfl]
   clear hd hle hk lp
   repeat (any_goals first|simp -dsimp (maxSteps:=4000000) (maxDischargeDepth:=8) -implicitDefEqProofs [*,-Int.not_le,-Int.not_lt,amLt,ap4]|with_reducible (first|apply cB|apply iB)<;>intro _|intro _)
  | true =>
   rw [hb] at hw
   rw [if_neg (by simp)]
   by_cases hc:bits ≠ -1∧wd=false
   ·obtain ⟨c1,rfl⟩:=hc
    rw [if_pos ⟨c1,rfl⟩]
    have c2:decide (bits = -1)=false:=decide_eq_false c1
    rw [c2] at hd
    clear hle hk c1 c2 lp
    repeat (any_goals first|simp -dsimp (maxSteps:=4000000) (maxDischargeDepth:=8) -implicitDefEqProofs [*,-Int.not_le,-Int.not_lt,amLt,ap4]|with_reducible (first|apply cB|apply iB)<;>intro _|intro _)
   ·rw [if_neg hc]
    have hbits:(decide (bits = -1) || wd)=true:=by
     by_cases q:bits = -1
     ·simp [q]
     ·cases wd with
      | true=>simp
      | false=>exact absurd ⟨q,rfl⟩ hc
    rw [hbits] at hd
    clear hbits hc hk
    by_cases q:nm=[]
    ·rw [if_pos q]
     subst q
     clear hle lp
     by_cases hneg:bits<0
     ·rw [if_pos hneg]
      repeat (any_goals first|simp -dsimp (maxSteps:=4000000) (maxDischargeDepth:=8) -implicitDefEqProofs [*,-Int.not_le,-Int.not_lt,amLt,ap4]|with_reducible (first|apply cB|apply iB)<;>intro _|intro _)
     ·rw [if_neg hneg]
      repeat (any_goals first|simp -dsimp (maxSteps:=4000000) (maxDischargeDepth:=8) -implicitDefEqProofs [*,-Int.not_le,-Int.not_lt,amLt,ap4]|with_reducible (first|apply cB|apply iB)<;>intro _|intro _)
    ·rw [if_neg q]
     cases hq:wordS nm with
     | false =>
      rw [hq] at hle
      rw [if_pos (.inl rfl)]
      clear lp
      repeat (any_goals first|simp -dsimp (maxSteps:=4000000) (maxDischargeDepth:=8) -implicitDefEqProofs [*,-Int.not_le,-Int.not_lt,amLt,ap4]|with_reducible (first|apply cB|apply iB)<;>intro _|intro _)
     | true =>
      rw [hq] at hle
      by_cases b0:bits=0
      ·rw [if_pos (.inr (.inl b0))]
       subst b0
       clear lp
       repeat (any_goals first|simp -dsimp (maxSteps:=4000000) (maxDischargeDepth:=8) -implicitDefEqProofs [*,-Int.not_le,-Int.not_lt,amLt,ap4]|with_reducible (first|apply cB|apply iB)<;>intro _|intro _)
      ·by_cases ms:nm ∈ seen
       ·rw [if_pos (.inr (.inr ms))]
        rw [if_pos ms] at lp
        clear ms
        repeat (any_goals first|simp -dsimp (maxSteps:=4000000) (maxDischargeDepth:=8) -implicitDefEqProofs [*,-Int.not_le,-Int.not_lt,amLt,ap4]|with_reducible (first|apply cB|apply iB)<;>intro _|intro _)
       ·rw [if_neg (by rintro (r|r|r);cases r;exact b0 r;exact ms r)]
        rw [if_neg ms] at lp
        clear ms
        repeat (any_goals first|simp -dsimp (maxSteps:=4000000) (maxDischargeDepth:=8) -implicitDefEqProofs [*,-Int.not_le,-Int.not_lt,amLt,ap4]|with_reducible (first|apply cB|apply iB)<;>intro _|intro _)
end
section
variable {H:Heap} {T:Nat} {rows:List TR} {c:Cap}
theorem rmems_loop (l:List Mem) (c0:Cap) (hl:l.length≤64) (hn:∀ m ∈ l,m.1.length≤1048576):∀ (r:List Mem) (i:Nat) (H:Heap),H[T]?=some (.cells [.is (rows.map trow) c])→l.drop i=r→i≤l.length →
  ∃ Y,(memsE (rwholeS rows) (kindS rows) (hasS rows) ((l.take i).map (·.1)) r=0→Brun tab 28 (.loop f115l4) (ofL [(0,.mp T 0),(1,.is (memRows l) c0),(5,.int .i64 i)]) H=some (.exit 0,ofL [(0,.mp T 0),(1,.is (memRows l) c0),(5,.int .i64 l.length),(18,.bool false)],H ++ Y)) ∧
   (memsE (rwholeS rows) (kindS rows) (hasS rows) ((l.take i).map (·.1)) r≠0→Brun tab 28 (.loop f115l4) (ofL [(0,.mp T 0),(1,.is (memRows l) c0),(5,.int .i64 i)]) H=some (.ret,ofL [(4,.int .i64 (memsE (rwholeS rows) (kindS rows) (hasS rows) ((l.take i).map (·.1)) r))],H ++ Y)):=by
 intro r
 induction r with
 | nil =>
  intro i H hT hr hi
  have hlen:=congrArg List.length hr
  simp only [List.length_drop,List.length_nil] at hlen
  have e2:(l.length:Int)=i:=by omega
  have hml:=memRows_len l
  refine ⟨[],fun _=>?_,fun q=>absurd rfl q⟩
  rw [Brun_loop,List.append_nil]
  clear hl hn hT hr hi hlen
  repeat (any_goals first|simp -dsimp (maxSteps:=4000000) (maxDischargeDepth:=8) -implicitDefEqProofs [*,-Int.not_le,-Int.not_lt,amLt]|with_reducible (first|apply cB|apply iB)<;>intro _|intro _)
 | cons m r ih =>
  intro i H hT hr hi
  have hlen:=congrArg List.length hr
  simp only [List.length_drop,List.length_cons] at hlen
  have hg:l[i]?=some m:=by
   have:=congrArg (·[0]?) hr
   simpa using this
  have htl:l.drop (i+1)=r:=by
   have:=congrArg List.tail hr
   simpa using this
  have htk:(l.take (i+1)).map (·.1)=(l.take i).map (·.1) ++ [m.1]:=by
   rw [List.take_add_one,hg,List.map_append]
   rfl
  have hM:memsE (rwholeS rows) (kindS rows) (hasS rows) ((l.take i).map (·.1)) (m :: r)=if memE (rwholeS rows) (kindS rows) (hasS rows) ((l.take i).map (·.1)) m=0 then memsE (rwholeS rows) (kindS rows) (hasS rows) ((l.take i).map (·.1) ++ [m.1]) r else memE (rwholeS rows) (kindS rows) (hasS rows) ((l.take i).map (·.1)) m:=rfl
  have hc:=rmember_ok hT l c0 hl i m hg (hn m (List.mem_of_getElem? hg))
  obtain ⟨Y,y1,y2⟩:=ih (i+1) (H ++ [.cells (memRow m)]) (rapp hT _) htl (by omega)
  have e3:¬ (l.length:Int)≤i:=by omega
  have hml:=memRows_len l
  have hw:=cw64 i (by omega)
  push_cast at y1 y2
  rw [hM,← htk]
  generalize memsE (rwholeS rows) (kindS rows) (hasS rows) ((l.take (i+1)).map (·.1)) r=z at *
  generalize memE (rwholeS rows) (kindS rows) (hasS rows) ((l.take i).map (·.1)) m=e at *
  clear ih hl hn hT hr hi hlen hg htl htk hM
  by_cases h0:e=0
  ·subst h0
   rw [if_pos rfl]
   refine ⟨[.cells (memRow m)] ++ Y,fun q=>?_,fun q=>?_⟩
   ·replace y1:=y1 q
    rw [Brun_loop]
    clear y2 q
    repeat (any_goals first|simp -dsimp (maxSteps:=4000000) (maxDischargeDepth:=8) -implicitDefEqProofs [*,-Int.not_le,-Int.not_lt,amLt]|with_reducible (first|apply cB|apply iB)<;>intro _|intro _)
   ·replace y2:=y2 q
    rw [Brun_loop]
    clear y1 q
    repeat (any_goals first|simp -dsimp (maxSteps:=4000000) (maxDischargeDepth:=8) -implicitDefEqProofs [*,-Int.not_le,-Int.not_lt,amLt]|with_reducible (first|apply cB|apply iB)<;>intro _|intro _)
  ·rw [if_neg h0]
   refine ⟨[.cells (memRow m)],fun q=>absurd q h0,fun q=>?_⟩
   rw [Brun_loop]
   clear y1 y2 q
   repeat (any_goals first|simp -dsimp (maxSteps:=4000000) (maxDischargeDepth:=8) -implicitDefEqProofs [*,-Int.not_le,-Int.not_lt,amLt,app_get,app_get0]|with_reducible (first|apply cB|apply iB)<;>intro _|intro _)
theorem rmembers_ok (hT:H[T]?=some (.cells [.is (rows.map trow) c])) (l:List Mem) (c0:Cap) (hll:l.length≤16777216) (hn:∀ m ∈ l,m.1.length≤1048576) :
  ∃ Y,Ccall tab 115 [.mp T 0,.is (memRows l) c0] H=some (.int .i64 (membersE (rwholeS rows) (kindS rows) (hasS rows) l),H ++ Y):=by
 unfold membersE
 have hml:=memRows_len l
 by_cases q:l.length<1∨64<l.length
 ·rw [if_pos q]
  refine ⟨[],?_⟩
  refine Ccall_over rfl rfl rfl rfl ?_
  clear hT hll hn
  by_cases q1:l.length<1
  ·have q2:(l.length:Int)<1:=by omega
   have q3:l.length=0:=by omega
   rw [List.append_nil]
   clear q
   repeat (any_goals first|simp -dsimp (maxSteps:=4000000) (maxDischargeDepth:=8) -implicitDefEqProofs [*,-Int.not_le,-Int.not_lt,amLt]|with_reducible (first|apply cB|apply iB)<;>intro _|intro _)
  ·have q2:¬ (l.length:Int)<1:=by omega
   have q3:¬ (l.length:Int)≤64:=by omega
   have q4:¬ l.length=0:=by omega
   rw [List.append_nil]
   clear q
   repeat (any_goals first|simp -dsimp (maxSteps:=4000000) (maxDischargeDepth:=8) -implicitDefEqProofs [*,-Int.not_le,-Int.not_lt,amLt]|with_reducible (first|apply cB|apply iB)<;>intro _|intro _)
 ·rw [if_neg q]
  have q2:¬ (l.length:Int)<1:=by omega
  have q3:(l.length:Int)≤64:=by omega
  have q4:¬ l.length=0:=by omega
  obtain ⟨Y,y1,y2⟩:=rmems_loop (c:=c) l c0 (by omega) hn l 0 H hT rfl (by omega)
  simp only [Int.natCast_zero,List.take_zero,List.map_nil] at y1 y2
  refine ⟨Y,?_⟩
  refine Ccall_over rfl rfl rfl rfl ?_
  clear hT hll hn q
  by_cases h0:memsE (rwholeS rows) (kindS rows) (hasS rows) [] l=0
  ·have y1:=y1 h0
   rw [h0]
   clear y2 h0
   repeat (any_goals first|simp -dsimp (maxSteps:=4000000) (maxDischargeDepth:=8) -implicitDefEqProofs [*,-Int.not_le,-Int.not_lt,amLt,ap4]|with_reducible (first|apply cB|apply iB)<;>intro _|intro _)
  ·have y2:=y2 h0
   generalize memsE (rwholeS rows) (kindS rows) (hasS rows) [] l=e at *
   clear y1 h0
   repeat (any_goals first|simp -dsimp (maxSteps:=4000000) (maxDischargeDepth:=8) -implicitDefEqProofs [*,-Int.not_le,-Int.not_lt,amLt,ap4]|with_reducible (first|apply cB|apply iB)<;>intro _|intro _)
end
end Go.Proofs.YtfhijkapcdmdnaaGreatDoor
