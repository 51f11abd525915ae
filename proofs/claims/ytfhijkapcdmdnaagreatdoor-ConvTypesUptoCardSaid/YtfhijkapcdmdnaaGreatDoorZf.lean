/- A table's rows; conversions: integers, pointers. -/
import Derived.Test.YtfhijkapcdmdnaaGreatDoorZe
import Derived.Test.YtfhijkapcdmdnaaGreatDoorAmW
namespace Go.Proofs.YtfhijkapcdmdnaaGreatDoor
open Go.AM
set_option maxRecDepth 20000
set_option maxHeartbeats 4000000
set_option linter.unusedSimpArgs false
set_option linter.unusedVariables false
set_option maxHeartbeats 4000000
theorem requal_self (h:Heap) (r:TR) (hl:r.mem.length≤16777216):Ccall tab 103 [.agg (trow r),.agg (trow r)] h=some (.bool true,h):=by
 have hml:=memRows_len r.mem
 have key:∀ (n i:Nat),i+n=r.mem.length→∃ E',Brun tab 66 (.loop f103l4) (ofL [(2,.ip [.int .i64 r.kind,.int .i64 r.elem,.int .i64 r.len,.str r.tag,.is (memRows r.mem) .no,.bool r.done] 0),(3,.ip [.int .i64 r.kind,.int .i64 r.elem,.int .i64 r.len,.str r.tag,.is (memRows r.mem) .no,.bool r.done] 0),(5,.int .i64 i)]) []=some (.exit 0,ofL E',[]):=by
  intro n
  induction n with
  | zero =>
   intro i hi
   refine ⟨[(2,.ip [.int .i64 r.kind,.int .i64 r.elem,.int .i64 r.len,.str r.tag,.is (memRows r.mem) .no,.bool r.done] 0),(3,.ip [.int .i64 r.kind,.int .i64 r.elem,.int .i64 r.len,.str r.tag,.is (memRows r.mem) .no,.bool r.done] 0),(5,.int .i64 i),(52,.bool false)],?_⟩
   have q1:¬ (i:Int)<r.mem.length:=by omega
   have q2:(r.mem.length:Int)≤i:=by omega
   rw [Brun_loop,f103l4_b]
   unfold f103m4
   generalize memRows r.mem=X at *
   clear hi hl
   repeat (any_goals first|simp -dsimp (maxSteps:=4000000) (maxDischargeDepth:=8) -implicitDefEqProofs [*,-Int.not_le,-Int.not_lt,amLt]|with_reducible (first|apply cB|apply iB)<;>intro _|intro _)
  | succ n ih =>
   intro i hi
   have hil:i<r.mem.length:=by omega
   obtain ⟨E',hh⟩:=ih (i+1) (by omega)
   refine ⟨E',?_⟩
   have hrow:(memRows r.mem)[i]?=some (memRow r.mem[i]):=by simp [memRows,List.getElem?_eq_getElem hil]
   have hrow2:∀ hh:i<(memRows r.mem).length,(memRows r.mem)[i]=memRow r.mem[i]:=fun hh=>(List.getElem?_eq_some_iff.1 hrow).2
   have q1:(i:Int)<r.mem.length:=by omega
   have w1:IntKind.i64.wrap ((i:Int)+1)=(i:Int)+1:=IntWalk.i64_in _ (by omega)
   rw [← hh,Brun_loop]
   push_cast
   generalize Brun tab 66 (.loop f103l4)=L at *
   rw [f103l4_b]
   unfold f103m4
   unfold memRow at *
   generalize r.mem[i]=mi at *
   generalize memRows r.mem=X at *
   clear hi hl hh ih
   repeat (any_goals first|simp -dsimp (maxSteps:=4000000) (maxDischargeDepth:=8) -implicitDefEqProofs [*,-Int.not_le,-Int.not_lt,amLt]|with_reducible (first|apply cB|apply iB)<;>intro _|intro _)
 obtain ⟨E',hk⟩:=key r.mem.length 0 (by omega)
 simp only [Int.natCast_zero] at hk
 refine Ccall_own rfl rfl rfl rfl ?_
 unfold trow
 generalize memRows r.mem=X at *
 clear key hl
 cases hd:r.done with
 | true =>
  rw [hd] at hk
  repeat (any_goals first|simp -dsimp (maxSteps:=4000000) (maxDischargeDepth:=8) -implicitDefEqProofs [*,-Int.not_le,-Int.not_lt,amLt]|with_reducible (first|apply cB|apply iB)<;>intro _|intro _)
 | false =>
  rw [hd] at hk
  repeat (any_goals first|simp -dsimp (maxSteps:=4000000) (maxDischargeDepth:=8) -implicitDefEqProofs [*,-Int.not_le,-Int.not_lt,amLt]|with_reducible (first|apply cB|apply iB)<;>intro _|intro _)
theorem rsame_self (h:Heap) (rows:List TR) (c c':Cap) (hl:∀ w ∈ rows,w.mem.length≤16777216) (hn:rows.length≤16777216):Ccall tab 61 [.is (rows.map trow) c,.is (rows.map trow) c'] h=some (.bool true,h):=by
 have hlen:(rows.map trow).length=rows.length:=List.length_map ..
 have key:∀ (c c':Cap) (n i:Nat),i+n=rows.length→∃ E',Brun tab 27 (.loop f61l4) (ofL [(0,.is (rows.map trow) c),(1,.is (rows.map trow) c'),(5,.int .i64 i)]) []=some (.exit 0,ofL E',[]):=by
  intro c c' n
  induction n with
  | zero =>
   intro i hi
   refine ⟨[(0,.is (rows.map trow) c),(1,.is (rows.map trow) c'),(5,.int .i64 i),(14,.bool false)],?_⟩
   have q1:¬ (i:Int)<rows.length:=by omega
   have q2:(rows.length:Int)≤i:=by omega
   rw [Brun_loop,f61l4_b]
   unfold f61m4
   generalize rows.map trow=X at *
   clear hi hl hn
   repeat (any_goals first|simp -dsimp (maxSteps:=4000000) (maxDischargeDepth:=8) -implicitDefEqProofs [*,-Int.not_le,-Int.not_lt,amLt]|with_reducible (first|apply cB|apply iB)<;>intro _|intro _)
  | succ n ih =>
   intro i hi
   have hil:i<rows.length:=by omega
   obtain ⟨E',hh⟩:=ih (i+1) (by omega)
   refine ⟨E',?_⟩
   have hrow:(rows.map trow)[i]?=some (trow rows[i]):=by rw [List.getElem?_map,List.getElem?_eq_getElem hil];rfl
   have hrow2:∀ hh:i<(rows.map trow).length,(rows.map trow)[i]=trow rows[i]:=fun hh=>(List.getElem?_eq_some_iff.1 hrow).2
   have q1:(i:Int)<rows.length:=by omega
   have w1:IntKind.i64.wrap ((i:Int)+1)=(i:Int)+1:=IntWalk.i64_in _ (by omega)
   have he:=fun h=>requal_self h rows[i] (hl _ (List.getElem_mem hil))
   have hsc2:∃ a0 a1 a2 a3 a4 a5,trow rows[i]=[a0,a1,a2,a3,a4,a5]∧imm a0=true∧imm a1=true∧imm a2=true∧imm a3=true∧imm a4=true∧imm a5=true:=⟨_,_,_,_,_,_,rfl,rfl,rfl,rfl,rfl,rfl,rfl⟩
   obtain ⟨a0,a1,a2,a3,a4,a5,ea,d0,d1,d2,d3,d4,d5⟩:=hsc2
   rw [ea] at hrow hrow2 he
   rw [← hh,Brun_loop]
   push_cast
   generalize Brun tab 27 (.loop f61l4)=L at *
   rw [f61l4_b]
   unfold f61m4
   generalize rows.map trow=X at *
   clear hi hl hh ih ea hn
   repeat (any_goals first|simp -dsimp (maxSteps:=4000000) (maxDischargeDepth:=8) -implicitDefEqProofs [*,-Int.not_le,-Int.not_lt,amLt]|with_reducible (first|apply cB|apply iB)<;>intro _|intro _)
 obtain ⟨E',hk⟩:=key .no .no rows.length 0 (by omega)
 obtain ⟨E2,hk2⟩:=key c c' rows.length 0 (by omega)
 simp only [Int.natCast_zero] at hk hk2
 refine Ccall_own rfl rfl rfl rfl ?_
 generalize rows.map trow=X at *
 clear key hl hn
 repeat (any_goals first|simp -dsimp (maxSteps:=4000000) (maxDischargeDepth:=8) -implicitDefEqProofs [*,-Int.not_le,-Int.not_lt,amLt]|with_reducible (first|apply cB|apply iB)<;>intro _|intro _)
section
variable {t:List TR} {T R M:Nat}
theorem rows_fn (hsz:∀ w ∈ t,w.mem.length≤16777216) (hn:t.length≤512) (G:Heap) (ht:TabAt G T R M t.length false t):∃ Z cap,Ccall tab 62 [.mp T 0] G=some (.is ((t.map eraseT).map trow) cap,G ++ Z):=by
 have key:∀ (n i:Nat) (cap:Cap) (Z:Heap),i+n=t.length→CapAt G.length cap 6 (((t.take i).map eraseT).map trow) Z →
   ∃ E' cap' Z',Brun tab 23 (.loop f62l3) (ofL [(0,.mp T 0),(3,.is (((t.take i).map eraseT).map trow) cap),(6,.int .i64 t.length),(7,.int .i64 i)]) (G ++ Z)=some (.exit 0,ofL ((0,.mp T 0) :: (3,.is ((t.map eraseT).map trow) cap') :: E'),G ++ Z'):=by
  intro n
  induction n with
  | zero =>
   intro i cap Z hi hc
   rw [List.take_of_length_le (by omega)]
   refine ⟨[(6,.int .i64 t.length),(7,.int .i64 i),(8,.bool false)],cap,Z,?_⟩
   have q1:¬ (i:Int)<t.length:=by omega
   have q2:(t.length:Int)≤i:=by omega
   rw [Brun_loop,f62l3_b]
   unfold f62m3
   generalize (t.map eraseT).map trow=X at *
   generalize G ++ Z=H at *
   clear hi hc ht hsz hn
   repeat (any_goals first|simp -dsimp (maxSteps:=4000000) (maxDischargeDepth:=8) -implicitDefEqProofs [*,-Int.not_le,-Int.not_lt,amLt]|with_reducible (first|apply cB|apply iB)<;>intro _|intro _)
  | succ n ih =>
   intro i cap Z hi hc
   have hil:i<t.length:=by omega
   have hg:t[i]?=some t[i]:=List.getElem?_eq_getElem hil
   have hD:(((t.take i).map eraseT).map trow).length=i:=by simp;omega
   have hroom:roomy (i+1) 72=true:=roomy_sm (by omega) (by decide)
   have hr:roomOK cap 6 (((t.take i).map eraseT).map trow) (G ++ (Z ++ [.free]))=true:=hc.room (p:=G) rfl _
   have hs:spend cap (G ++ (Z ++ [.free]))=G ++ (spendAt G.length cap Z ++ [.free]):=hc.spend (p:=G) rfl _
   have hsl:=spendAt_len G.length cap Z
   have hrows:((t.take i).map eraseT).map trow ++ [trow (eraseT t[i])]=((t.take (i+1)).map eraseT).map trow:=by
    rw [List.take_add_one,hg,Option.toList_some,List.map_append,List.map_append]
    rfl
   have hc':CapAt G.length (.tok (G.length+Z.length) 6) 6 (((t.take (i+1)).map eraseT).map trow) (spendAt G.length cap Z ++ [.tok]):=⟨rfl,Z.length,by omega,by rw [← hsl,List.getElem?_append_right (Nat.le_refl _),Nat.sub_self];rfl⟩
   obtain ⟨E',cap',Z',h⟩:=ih (i+1) _ _ (by omega) hc'
   refine ⟨E',cap',Z',?_⟩
   have htw:=fun h=>twin_ok h t[i] (hsz _ (List.getElem_mem hil))
   have hew:trow { t[i] with cap:= .no }=trow (eraseT t[i]):=rfl
   rw [hew] at htw
   have q1:(i:Int)<t.length:=by omega
   have w1:IntKind.i64.wrap ((i:Int)+1)=(i:Int)+1:=IntWalk.i64_in _ (by omega)
   have gT:∀ y,(G ++ y)[T]?=some (.cells [.ms R 0 t.length 6 t.length false,.mm M]):=fun y=>rapp ht.t0 y
   have gR:∀ y,(G ++ y)[R]?=some (.cells (cellsT t)):=fun y=>rapp ht.r0 y
   have cr:=cells_row hg
   have cn:=cells_len t
   have b1:i*6+6≤t.length*6:=by omega
   have s0:∀ b,(spendAt G.length cap Z ++ [Blk.free]).set Z.length b=spendAt G.length cap Z ++ [b]:=fun b=>by
    rw [List.set_append_right _ _ (by omega),hsl,Nat.sub_self];rfl
   have s1:(G ++ (spendAt G.length cap Z ++ [Blk.free]))[G.length+Z.length]?=some Blk.free:=by
    rw [List.getElem?_append_right (by omega),Nat.add_sub_cancel_left,List.getElem?_append_right (by omega),hsl,Nat.sub_self];rfl
   push_cast at h
   rw [← h,Brun_loop,← hrows]
   generalize Brun tab 23 (.loop f62l3)=L at *
   rw [f62l3_b]
   unfold f62m3
   have hst:strip.stripL (trow (eraseT t[i]))=trow (eraseT t[i]):=rfl
   have him:imm.immL (trow (eraseT t[i]))=true:=rfl
   have hsc2:∃ a0 a1 a2 a3 a4 a5,trow (eraseT t[i])=[a0,a1,a2,a3,a4,a5]∧isSc a0=true∧isSc a1=true∧isSc a2=true∧isSc a3=true∧isSc a4=true∧isSc a5=true∧(strip a0=a0∧strip a1=a1∧strip a2=a2∧strip a3=a3∧strip a4=a4∧strip a5=a5)∧imm a0=true∧imm a1=true∧imm a2=true∧imm a3=true∧imm a4=true∧imm a5=true:=⟨_,_,_,_,_,_,rfl,rfl,rfl,rfl,rfl,rfl,rfl,⟨rfl,rfl,rfl,rfl,rfl,rfl⟩,rfl,rfl,rfl,rfl,rfl,rfl⟩
   have hsc3:∃ a0 a1 a2 a3 a4 a5,trow t[i]=[a0,a1,a2,a3,a4,a5]:=⟨_,_,_,_,_,_,rfl⟩
   obtain ⟨a0,a1,a2,a3,a4,a5,ea,d0,d1,d2,d3,d4,d5,⟨s0',s1',s2',s3',s4',s5'⟩,m0,m1,m2,m3,m4,m5⟩:=hsc2
   obtain ⟨b0,b1',b2,b3,b4,b5,eb⟩:=hsc3
   rw [ea] at htw ⊢
   clear hst him
   rw [eb] at htw cr
   generalize ((t.take i).map eraseT).map trow=D at *
   generalize spendAt G.length cap Z=SZ at *
   generalize cellsT t=CT at *
   clear hc hc' hrows h ih hsz ht hg hil hi hn hsl hew ea eb
   generalize t.length=NN at *
   repeat (any_goals first|simp -dsimp (maxSteps:=4000000) (maxDischargeDepth:=8) -implicitDefEqProofs [*,-Int.not_le,-Int.not_lt,amLt,List.append_assoc,newF]|with_reducible (first|apply cB|apply iB)<;>intro _|intro _)
 have hln:=len_ok ht
 obtain ⟨E',cap',Z',h⟩:=key t.length 0 .nil [] (by omega) (CapAt.nil ..)
 simp only [List.take_zero,List.map_nil,Int.natCast_zero,List.append_nil] at h
 refine ⟨Z',cap',?_⟩
 refine Ccall_over rfl rfl rfl rfl ?_
 generalize (t.map eraseT).map trow=X at *
 generalize t.length=NN at *
 clear key ht hsz hn
 repeat (any_goals first|simp -dsimp (maxSteps:=4000000) (maxDischargeDepth:=8) -implicitDefEqProofs [*,-Int.not_le,-Int.not_lt,amLt]|with_reducible (first|apply cB|apply iB)<;>intro _|intro _)
theorem like_ok (hsz:∀ w ∈ t,w.mem.length≤16777216) (hn:t.length≤512) (G:Heap) (ht:TabAt G T R M t.length false t) {C:Nat} {c:Cap} (hC:G[C]?=some (.cells [.is ((t.map eraseT).map trow) c])) (hne:C≠T∧C≠R):∃ Z,Ccall tab 25 [.mp T 0,.mp C 0] G=some (.bool true,G ++ Z):=by
 have lC:=(List.getElem?_eq_some_iff.1 hC).1
 have htf:TabAt (G.set C .free) T R M t.length false t:=tab_of (by rw [List.getElem?_set_ne hne.1];exact ht.t0) (by rw [List.getElem?_set_ne hne.2];exact ht.r0)
 obtain ⟨Z,cap,h1⟩:=rows_fn hsz hn (G.set C .free) htf
 obtain ⟨w,hA⟩:=acall_of h1
 obtain ⟨hA,wC,_⟩:=Acall_beside (b:= .cells [.is ((t.map eraseT).map trow) c]) hC hA
 have eG:(G.set C .free ++ Z).set C (.cells [.is ((t.map eraseT).map trow) c])=G ++ Z:=by
  rw [List.set_append_left _ _ (by rw [List.length_set];exact lC),List.set_set,set_id hC]
 rw [eG] at hA
 obtain ⟨w2,h2⟩:=acall_of (rsame_self (G ++ Z) (t.map eraseT) cap c (fun w hw=>by obtain ⟨w',hw',rfl⟩:=List.mem_map.1 hw;exact hsz w' hw') (by rw [List.length_map];omega))
 have ht3:TabAt ((G ++ Z).set C .free) T R M t.length false t:=tab_of (by rw [List.getElem?_set_ne hne.1];exact (ht.app Z).t0) (by rw [List.getElem?_set_ne hne.2];exact (ht.app Z).r0)
 obtain ⟨w3,h3⟩:=acall_of (len_ok ht3)
 obtain ⟨h3,wC3,_⟩:=Acall_beside (b:= .cells [.is ((t.map eraseT).map trow) c]) (rapp hC Z) h3
 rw [List.set_set,set_id (rapp hC Z)] at h3
 have eC3:¬ C ∈ w3:=by simpa using wC3
 have lC3:C<G.length+Z.length:=by omega
 have hCx:=fun x=>rapp (X:=x) hC
 have hCx':∀ x (hh:C<(G ++ x).length),(G ++ x)[C]'hh=_:=fun x hh=>(List.getElem?_eq_some_iff.1 (hCx x)).2
 have f0:∀ hh,G[C]'hh=_:=fun hh=>(List.getElem?_eq_some_iff.1 hC).2
 have hXl:((t.map eraseT).map trow).length=t.length:=by simp
 have eC:¬ C ∈ w:=by simpa using wC
 have hreg:Brun tab 22 (.region true f25r1 [4] 0) (ofL [(0,.mp T 0),(1,.mp C 0)]) G=some (.normal,ofL [(4,.bool true)],G ++ Z):=by
  refine Brun_told ?_
  generalize (t.map eraseT).map trow=X at *
  generalize t.length=NN at *
  clear h1 eG htf ht hsz hn ht3
  simp [*,f25r1,f25q1,asteps,astep,stepRun,aop,HC.run,HC.rds,HC.wrs,HC.ofOpt,Blk.isFree,wanted,put,cellsOf,isSc,splice,cget,slen,ssz,scells,roomy,rowsz,Cap.tight,drawOK,freeOf,Rec.indep,disj,apart,AOper.looks,AOp.tmps,AO.tmps,pTmps,oTmps,Nat.testBit,ofL,isPure,tab,f61,f62,f63,fillp,imm,imm.immL,abin]
 refine ⟨Z,?_⟩
 refine Ccall_over rfl rfl rfl rfl ?_
 generalize (t.map eraseT).map trow=X at *
 generalize t.length=NN at *
 clear ht hsz hn hC htf h1 hA eG h2 h3 ht3
 repeat (any_goals first|simp -dsimp (maxSteps:=4000000) (maxDischargeDepth:=8) -implicitDefEqProofs [*,-Int.not_le,-Int.not_lt,amLt]|with_reducible (first|apply cB|apply iB)<;>intro _|intro _)
end
def integerK (k:Int):Bool:=decide (2≤k) && decide (k≤12)
theorem integer_ok (h:Heap) (k:Int):Ccall tab 38 [.int .i64 k] h=some (.bool (integerK k),h):=by
 refine Ccall_own rfl rfl rfl rfl ?_
 repeat (any_goals first|simp -dsimp (maxSteps:=4000000) (maxDischargeDepth:=8) -implicitDefEqProofs [*,-Int.not_le,-Int.not_lt,amLt,integerK]|with_reducible (first|apply cB|apply iB)<;>intro _|intro _)
def promote (k b:Int):Int:=if integerK k=true then (if (0≤b∧b≤31)∨k≤7∨k=12 then 8 else k) else k
theorem promote_ok (h:Heap) (k b:Int):Ccall tab 12 [.int .i64 k,.int .i64 b] h=some (.int .i64 (promote k b),h):=by
 have h1:=fun h=>integer_ok h k
 unfold promote
 refine Ccall_own rfl rfl rfl rfl ?_
 generalize integerK k=p at *
 cases p with
 | false =>
  repeat (any_goals first|simp -dsimp (maxSteps:=4000000) (maxDischargeDepth:=8) -implicitDefEqProofs [*,-Int.not_le,-Int.not_lt,amLt]|with_reducible (first|apply cB|apply iB)<;>intro _|intro _)
 | true =>
  repeat (any_goals first|simp -dsimp (maxSteps:=4000000) (maxDischargeDepth:=8) -implicitDefEqProofs [*,-Int.not_le,-Int.not_lt,amLt]|with_reducible (first|apply cB|apply iB)<;>intro _|intro _)
theorem is_ok (k a b:Int):Ccall tab 39 [.int .i64 k,.mp 0 0,.mp 1 0] [.cells [.int .i64 a],.cells [.int .i64 b]]=some (.bool (decide (a=k) || decide (b=k)),[.cells [.int .i64 a],.cells [.int .i64 b]]):=by
 refine Ccall_over rfl rfl rfl rfl ?_
 repeat (any_goals first|simp -dsimp (maxSteps:=4000000) (maxDischargeDepth:=8) -implicitDefEqProofs [*,-Int.not_le,-Int.not_lt,amLt]|with_reducible (first|apply cB|apply iB)<;>intro _|intro _)
def usual (a b:Int):Int × Int :=
 if integerK a=true∧integerK b=true then
  (let x:=promote a (-1);let y:=promote b (-1)
  (if x=11∨y=11 then 11 else if (x=10∧y=9)∨(x=9∧y=10) then 11 else if x=10∨y=10 then 10 else if x=9∨y=9 then 9 else 8,0))
 else (0,70)
theorem usual_ok (h:Heap) (a b:Int):Ccall tab 9 [.int .i64 a,.int .i64 b] h=some (.tup [.int .i64 (usual a b).1,.int .i64 (usual a b).2],h):=by
 have h1:=fun h=>integer_ok h a
 have h2:=fun h=>integer_ok h b
 have h3:=fun h=>promote_ok h a (-1)
 have h4:=fun h=>promote_ok h b (-1)
 refine Ccall_own rfl rfl rfl rfl ?_
 unfold usual
 generalize integerK a=p at *
 generalize integerK b=q at *
 generalize promote a (-1)=x at *
 generalize promote b (-1)=y at *
 cases p with
 | false =>
  repeat (any_goals first|simp -dsimp (maxSteps:=4000000) (maxDischargeDepth:=8) -implicitDefEqProofs [*,-Int.not_le,-Int.not_lt,amLt,is_ok]|with_reducible (first|apply cB|apply iB)<;>intro _|intro _)
 | true =>
  cases q with
  | false =>
   repeat (any_goals first|simp -dsimp (maxSteps:=4000000) (maxDischargeDepth:=8) -implicitDefEqProofs [*,-Int.not_le,-Int.not_lt,amLt,is_ok]|with_reducible (first|apply cB|apply iB)<;>intro _|intro _)
  | true =>
   repeat (any_goals first|simp -dsimp (maxSteps:=4000000) (maxDischargeDepth:=8) -implicitDefEqProofs [*,-Int.not_le,-Int.not_lt,amLt,is_ok]|with_reducible (first|apply cB|apply iB)<;>intro _|intro _)
   all_goals omega
theorem rowk_ok (h:Heap) (k:Int) (hk:0≤k∧k≤100):Ccall tab 57 [.int .i64 k] h=some (.int .i64 (k - 1),h):=by
 have w:IntKind.i64.wrap (k - 1)=k - 1:=IntWalk.i64_in _ (by omega)
 refine Ccall_own rfl rfl rfl rfl ?_
 clear hk
 repeat (any_goals first|simp -dsimp (maxSteps:=4000000) (maxDischargeDepth:=8) -implicitDefEqProofs [*,-Int.not_le,-Int.not_lt,amLt]|with_reducible (first|apply cB|apply iB)<;>intro _|intro _)
section
variable {H:Heap} {T R M cap:Nat} {ex:Bool} {t:List TR}
def rowY (T:Nat) (r:TR):Heap:=[.cells [.mp T 0],.cells (trow (eraseT r)),.cells (trow (eraseT r)),.cells (trow (eraseT r))]
def kindY (T:Nat) (r:TR):Heap:= .cells [.mp T 0] :: rowY T r
def intY (T:Nat) (r:TR):Heap:= .cells [.mp T 0] :: kindY T r
theorem arow_ok (ht:TabAt H T R M cap ex t) {id:Int} {r:TR} (hg:getT t id=some r) (hl:r.mem.length≤16777216) :
  Ccall tab 41 [.agg [.mp T 0],.int .i64 id] H=some (.agg (trow (eraseT r)),H ++ rowY T r):=by
 have h1:=fun x=>trow_ok (ht.app x) hg hl
 unfold rowY
 have hsc2:∃ a0 a1 a2 a3 a4 a5,trow (eraseT r)=[a0,a1,a2,a3,a4,a5]∧isSc a0=true∧isSc a1=true∧isSc a2=true∧isSc a3=true∧isSc a4=true∧isSc a5=true:=⟨_,_,_,_,_,_,rfl,rfl,rfl,rfl,rfl,rfl,rfl⟩
 obtain ⟨a0,a1,a2,a3,a4,a5,ea,c0,c1,c2,c3,c4,c5⟩:=hsc2
 rw [ea] at h1 ⊢
 refine Ccall_over rfl rfl rfl rfl ?_
 clear ht hg hl ea
 repeat (any_goals first|simp -dsimp (maxSteps:=4000000) (maxDischargeDepth:=8) -implicitDefEqProofs [*,-Int.not_le,-Int.not_lt,amLt,ap4]|with_reducible (first|apply cB|apply iB)<;>intro _|intro _)
theorem akind_ok (ht:TabAt H T R M cap ex t) {id:Int} {r:TR} (hg:getT t id=some r) (hl:r.mem.length≤16777216) :
  Ccall tab 44 [.agg [.mp T 0],.int .i64 id] H=some (.int .i64 r.kind,H ++ kindY T r):=by
 have h1:=fun x=>arow_ok (ht.app x) hg hl
 unfold kindY
 refine Ccall_over rfl rfl rfl rfl ?_
 unfold trow eraseT at h1
 clear ht hg hl
 repeat (any_goals first|simp -dsimp (maxSteps:=4000000) (maxDischargeDepth:=8) -implicitDefEqProofs [*,-Int.not_le,-Int.not_lt,amLt,ap4]|with_reducible (first|apply cB|apply iB)<;>intro _|intro _)
theorem aint_ok (ht:TabAt H T R M cap ex t) {id:Int} {r:TR} (hg:getT t id=some r) (hl:r.mem.length≤16777216) :
  Ccall tab 42 [.agg [.mp T 0],.int .i64 id] H=some (.bool (integerK r.kind),H ++ intY T r):=by
 have h1:=fun x=>akind_ok (ht.app x) hg hl
 unfold intY
 refine Ccall_over rfl rfl rfl rfl ?_
 clear ht hg hl
 repeat (any_goals first|simp -dsimp (maxSteps:=4000000) (maxDischargeDepth:=8) -implicitDefEqProofs [*,-Int.not_le,-Int.not_lt,amLt,ap4,integer_ok]|with_reducible (first|apply cB|apply iB)<;>intro _|intro _)
theorem aptr_ok (ht:TabAt H T R M cap ex t) {id:Int} {r:TR} (hg:getT t id=some r) (hl:r.mem.length≤16777216) :
  Ccall tab 45 [.agg [.mp T 0],.int .i64 id] H=some (.bool (decide (r.kind=13)),H ++ intY T r):=by
 have h1:=fun x=>akind_ok (ht.app x) hg hl
 unfold intY
 refine Ccall_over rfl rfl rfl rfl ?_
 clear ht hg hl
 repeat (any_goals first|simp -dsimp (maxSteps:=4000000) (maxDischargeDepth:=8) -implicitDefEqProofs [*,-Int.not_le,-Int.not_lt,amLt,ap4]|with_reducible (first|apply cB|apply iB)<;>intro _|intro _)
def anyB (r:TR):Bool:=decide (r.kind=13) && decide (r.elem=0)
def anyY (T:Nat) (r:TR):Heap:= .cells [.mp T 0] :: (intY T r ++ if r.kind=13 then rowY T r else [])
theorem any_ok (ht:TabAt H T R M cap ex t) {id:Int} {r:TR} (hg:getT t id=some r) (hl:r.mem.length≤16777216) :
  Ccall tab 59 [.agg [.mp T 0],.int .i64 id] H=some (.bool (anyB r),H ++ anyY T r):=by
 have h1:=fun x=>aptr_ok (ht.app x) hg hl
 have h2:=fun x=>arow_ok (ht.app x) hg hl
 have h3:=fun h=>rowk_ok h 1 (by omega)
 have e1:(1:Int) - 1=0:=rfl
 rw [e1] at h3
 unfold anyY anyB
 unfold trow eraseT at h2
 refine Ccall_over rfl rfl rfl rfl ?_
 clear ht hg hl
 by_cases c:r.kind=13
 ·repeat (any_goals first|simp -dsimp (maxSteps:=4000000) (maxDischargeDepth:=8) -implicitDefEqProofs [*,-Int.not_le,-Int.not_lt,amLt,ap4]|with_reducible (first|apply cB|apply iB)<;>intro _|intro _)
 ·repeat (any_goals first|simp -dsimp (maxSteps:=4000000) (maxDischargeDepth:=8) -implicitDefEqProofs [*,-Int.not_le,-Int.not_lt,amLt,ap4]|with_reducible (first|apply cB|apply iB)<;>intro _|intro _)
end
section
variable {H:Heap} {T R M cap:Nat} {ex:Bool} {t:List TR}
def alikeB (a b:Int) (ra rb:TR):Bool:=decide (ra.kind=13) && decide (rb.kind=13) && (decide (a=b) || anyB ra || anyB rb)
def alikeY (T:Nat) (a b:Int) (ra rb:TR):Heap :=
 .cells [.mp T 0] :: (intY T ra ++ if ra.kind=13 then intY T rb ++ (if rb.kind=13 then (if a=b then [] else anyY T ra ++ (if anyB ra=true then [] else anyY T rb)) else []) else [])
theorem alike_ok (ht:TabAt H T R M cap ex t) {a b:Int} {ra rb:TR} (ha:getT t a=some ra) (la:ra.mem.length≤16777216) (hb:getT t b=some rb) (lb:rb.mem.length≤16777216) :
  Ccall tab 43 [.agg [.mp T 0],.int .i64 a,.int .i64 b] H=some (.bool (alikeB a b ra rb),H ++ alikeY T a b ra rb):=by
 have h1:=fun x=>aptr_ok (ht.app x) ha la
 have h2:=fun x=>aptr_ok (ht.app x) hb lb
 have h3:=fun x=>any_ok (ht.app x) ha la
 have h4:=fun x=>any_ok (ht.app x) hb lb
 have hab:a=b→ra=rb:=fun e=>by subst e;rw [ha] at hb;exact Option.some.inj hb
 unfold alikeY alikeB
 refine Ccall_over rfl rfl rfl rfl ?_
 clear ht ha hb la lb
 generalize anyB ra=p at *
 generalize anyB rb=q at *
 by_cases c1:ra.kind=13
 ·by_cases c2:rb.kind=13
  ·by_cases c3:a=b
   ·have e:ra=rb:=hab c3
    subst e
    subst c3
    repeat (any_goals first|simp -dsimp (maxSteps:=4000000) (maxDischargeDepth:=8) -implicitDefEqProofs [*,-Int.not_le,-Int.not_lt,amLt,ap4]|with_reducible (first|apply cB|apply iB)<;>intro _|intro _)
   ·cases p<;>cases q
    ·repeat (any_goals first|simp -dsimp (maxSteps:=4000000) (maxDischargeDepth:=8) -implicitDefEqProofs [*,-Int.not_le,-Int.not_lt,amLt,ap4]|with_reducible (first|apply cB|apply iB)<;>intro _|intro _)
    ·repeat (any_goals first|simp -dsimp (maxSteps:=4000000) (maxDischargeDepth:=8) -implicitDefEqProofs [*,-Int.not_le,-Int.not_lt,amLt,ap4]|with_reducible (first|apply cB|apply iB)<;>intro _|intro _)
    ·repeat (any_goals first|simp -dsimp (maxSteps:=4000000) (maxDischargeDepth:=8) -implicitDefEqProofs [*,-Int.not_le,-Int.not_lt,amLt,ap4]|with_reducible (first|apply cB|apply iB)<;>intro _|intro _)
    ·repeat (any_goals first|simp -dsimp (maxSteps:=4000000) (maxDischargeDepth:=8) -implicitDefEqProofs [*,-Int.not_le,-Int.not_lt,amLt,ap4]|with_reducible (first|apply cB|apply iB)<;>intro _|intro _)
  ·repeat (any_goals first|simp -dsimp (maxSteps:=4000000) (maxDischargeDepth:=8) -implicitDefEqProofs [*,-Int.not_le,-Int.not_lt,amLt,ap4]|with_reducible (first|apply cB|apply iB)<;>intro _|intro _)
 ·repeat (any_goals first|simp -dsimp (maxSteps:=4000000) (maxDischargeDepth:=8) -implicitDefEqProofs [*,-Int.not_le,-Int.not_lt,amLt,ap4]|with_reducible (first|apply cB|apply iB)<;>intro _|intro _)
theorem look2_ok (ht:TabAt H T R M cap ex t) {a b:Int} {ra rb:TR} (ha:getT t a=some ra) (hb:getT t b=some rb) (c:Cap) :
  Ccall tab 40 [.mp T 0,.is [[.int .i64 a],[.int .i64 b]] c] H=some (.int .i64 0,H):=by
 have h1:=len_ok ht
 have w1:IntKind.i64.wrap 1=1:=by decide
 have w2:IntKind.i64.wrap 2=2:=by decide
 obtain ⟨a0,ai⟩:=getT_some ha
 obtain ⟨b0,bi⟩:=getT_some hb
 have la:=(List.getElem?_eq_some_iff.1 ai).1
 have lb:=(List.getElem?_eq_some_iff.1 bi).1
 have a1:¬ (t.length:Int)≤a:=by omega
 have b1:¬ (t.length:Int)≤b:=by omega
 have a2:¬ a<0:=by omega
 have b2:¬ b<0:=by omega
 have n0:¬ (t.length:Int)=0:=by omega
 have n0':¬ t.length=0:=by omega
 generalize t.length=n at *
 refine Ccall_over rfl rfl rfl rfl ?_
 clear ht ha hb ai bi la lb
 repeat (any_goals first|simp -dsimp (maxSteps:=4000000) (maxDischargeDepth:=8) -implicitDefEqProofs [*,-Int.not_le,-Int.not_lt,amLt,ap4,Brun_loop]|with_reducible (first|apply cB|apply iB)<;>intro _|intro _)
def assignS (a b:Int) (ra rb:TR):Int:=if (integerK ra.kind && integerK rb.kind) || alikeB a b ra rb || (decide (a=b) && ra.done) then 0 else 70
def castS (ra rb:TR):Int:=if ra.kind=1∨(integerK ra.kind && integerK rb.kind)=true∨(ra.kind=13∧rb.kind=13)∨(ra.kind=2∧rb.kind=13) then 0 else 70
theorem assign_ok (ht:TabAt H T R M cap ex t) {a b:Int} {ra rb:TR} (ha:getT t a=some ra) (la:ra.mem.length≤16777216) (hb:getT t b=some rb) (lb:rb.mem.length≤16777216) :
  ∃ Y,Ccall tab 14 [.mp T 0,.int .i64 a,.int .i64 b] H=some (.int .i64 (assignS a b ra rb),H ++ Y):=by
 have h0:=look2_ok ht ha hb
 have h1:=fun x=>arow_ok (ht.app x) ha la
 have h2:=fun x=>aint_ok (ht.app x) ha la
 have h3:=fun x=>aint_ok (ht.app x) hb lb
 have h4:=fun x=>alike_ok (ht.app x) ha la hb lb
 have hab:a=b→ra=rb:=fun e=>by subst e;rw [ha] at hb;exact Option.some.inj hb
 unfold assignS
 generalize alikeB a b ra rb=p at *
 generalize alikeY T a b ra rb=yp at *
 generalize hq:integerK ra.kind=q at *
 generalize hw:integerK rb.kind=w at *
 refine ⟨.cells [.mp T 0] :: .cells (trow (eraseT ra)) :: (rowY T ra ++ (intY T ra ++ ((if q=true then intY T rb else []) ++ (if q=true∧w=true then [] else yp)))),Ccall_over rfl rfl rfl rfl ?_⟩
 unfold trow eraseT at *
 clear ht ha hb la lb
 by_cases c3:a=b
 ·have e:=hab c3
  subst e
  subst c3
  have e2:q=w:=by rw [← hq,← hw]
  subst e2
  clear hq hw h3
  cases q<;>cases p
  ·repeat (any_goals first|simp -dsimp (maxSteps:=4000000) (maxDischargeDepth:=8) -implicitDefEqProofs [*,-Int.not_le,-Int.not_lt,amLt,ap4]|with_reducible (first|apply cB|apply iB)<;>intro _|intro _)
  ·repeat (any_goals first|simp -dsimp (maxSteps:=4000000) (maxDischargeDepth:=8) -implicitDefEqProofs [*,-Int.not_le,-Int.not_lt,amLt,ap4]|with_reducible (first|apply cB|apply iB)<;>intro _|intro _)
  ·repeat (any_goals first|simp -dsimp (maxSteps:=4000000) (maxDischargeDepth:=8) -implicitDefEqProofs [*,-Int.not_le,-Int.not_lt,amLt,ap4]|with_reducible (first|apply cB|apply iB)<;>intro _|intro _)
  ·repeat (any_goals first|simp -dsimp (maxSteps:=4000000) (maxDischargeDepth:=8) -implicitDefEqProofs [*,-Int.not_le,-Int.not_lt,amLt,ap4]|with_reducible (first|apply cB|apply iB)<;>intro _|intro _)
 ·clear hq hw
  cases q<;>cases w<;>cases p
  ·repeat (any_goals first|simp -dsimp (maxSteps:=4000000) (maxDischargeDepth:=8) -implicitDefEqProofs [*,-Int.not_le,-Int.not_lt,amLt,ap4]|with_reducible (first|apply cB|apply iB)<;>intro _|intro _)
  ·repeat (any_goals first|simp -dsimp (maxSteps:=4000000) (maxDischargeDepth:=8) -implicitDefEqProofs [*,-Int.not_le,-Int.not_lt,amLt,ap4]|with_reducible (first|apply cB|apply iB)<;>intro _|intro _)
  ·repeat (any_goals first|simp -dsimp (maxSteps:=4000000) (maxDischargeDepth:=8) -implicitDefEqProofs [*,-Int.not_le,-Int.not_lt,amLt,ap4]|with_reducible (first|apply cB|apply iB)<;>intro _|intro _)
  ·repeat (any_goals first|simp -dsimp (maxSteps:=4000000) (maxDischargeDepth:=8) -implicitDefEqProofs [*,-Int.not_le,-Int.not_lt,amLt,ap4]|with_reducible (first|apply cB|apply iB)<;>intro _|intro _)
  ·repeat (any_goals first|simp -dsimp (maxSteps:=4000000) (maxDischargeDepth:=8) -implicitDefEqProofs [*,-Int.not_le,-Int.not_lt,amLt,ap4]|with_reducible (first|apply cB|apply iB)<;>intro _|intro _)
  ·repeat (any_goals first|simp -dsimp (maxSteps:=4000000) (maxDischargeDepth:=8) -implicitDefEqProofs [*,-Int.not_le,-Int.not_lt,amLt,ap4]|with_reducible (first|apply cB|apply iB)<;>intro _|intro _)
  ·repeat (any_goals first|simp -dsimp (maxSteps:=4000000) (maxDischargeDepth:=8) -implicitDefEqProofs [*,-Int.not_le,-Int.not_lt,amLt,ap4]|with_reducible (first|apply cB|apply iB)<;>intro _|intro _)
  ·repeat (any_goals first|simp -dsimp (maxSteps:=4000000) (maxDischargeDepth:=8) -implicitDefEqProofs [*,-Int.not_le,-Int.not_lt,amLt,ap4]|with_reducible (first|apply cB|apply iB)<;>intro _|intro _)
theorem cast_ok (ht:TabAt H T R M cap ex t) {a b:Int} {ra rb:TR} (ha:getT t a=some ra) (la:ra.mem.length≤16777216) (hb:getT t b=some rb) (lb:rb.mem.length≤16777216) :
  ∃ Y,Ccall tab 15 [.mp T 0,.int .i64 a,.int .i64 b] H=some (.int .i64 (castS ra rb),H ++ Y):=by
 have h0:=look2_ok ht ha hb
 have h1:=fun x=>akind_ok (ht.app x) ha la
 have h2:=fun x=>aint_ok (ht.app x) ha la
 have h3:=fun x=>aint_ok (ht.app x) hb lb
 have h4:=fun x=>aptr_ok (ht.app x) ha la
 have h5:=fun x=>aptr_ok (ht.app x) hb lb
 have hab:a=b→ra=rb:=fun e=>by subst e;rw [ha] at hb;exact Option.some.inj hb
 unfold castS
 have k2:ra.kind=2→integerK ra.kind=true:=fun e=>by rw [e];rfl
 have k13:ra.kind=13→integerK ra.kind=false:=fun e=>by rw [e];rfl
 have k1:ra.kind=1→integerK ra.kind=false:=fun e=>by rw [e];rfl
 by_cases e1:ra.kind=1
 ·refine ⟨.cells [.mp T 0] :: kindY T ra,Ccall_over rfl rfl rfl rfl ?_⟩
  clear ht ha hb la lb k2 k13 k1 hab
  repeat (any_goals first|simp -dsimp (maxSteps:=4000000) (maxDischargeDepth:=8) -implicitDefEqProofs [*,-Int.not_le,-Int.not_lt,amLt,ap4]|with_reducible (first|apply cB|apply iB)<;>intro _|intro _)
 ·by_cases e13:ra.kind=13
  ·have q:=k13 e13
   generalize hq:integerK ra.kind=q0 at *
   subst q
   generalize integerK rb.kind=w at *
   refine ⟨.cells [.mp T 0] :: (kindY T ra ++ (intY T ra ++ (intY T ra ++ intY T rb))),Ccall_over rfl rfl rfl rfl ?_⟩
   clear ht ha hb la lb k2 k13 k1 hq hab
   by_cases r13:rb.kind=13
   ·repeat (any_goals first|simp -dsimp (maxSteps:=4000000) (maxDischargeDepth:=8) -implicitDefEqProofs [*,-Int.not_le,-Int.not_lt,amLt,ap4]|with_reducible (first|apply cB|apply iB)<;>intro _|intro _)
   ·repeat (any_goals first|simp -dsimp (maxSteps:=4000000) (maxDischargeDepth:=8) -implicitDefEqProofs [*,-Int.not_le,-Int.not_lt,amLt,ap4]|with_reducible (first|apply cB|apply iB)<;>intro _|intro _)
  ·generalize hq:integerK ra.kind=q at *
   generalize integerK rb.kind=w at *
   by_cases e2:ra.kind=2
   ·have q2:=k2 e2
    subst q2
    refine ⟨.cells [.mp T 0] :: (kindY T ra ++ (intY T ra ++ (intY T rb ++ if w=true then [] else intY T ra ++ intY T rb))),Ccall_over rfl rfl rfl rfl ?_⟩
    clear ht ha hb la lb k2 k13 k1 hq hab
    cases w
    ·by_cases r13:rb.kind=13
     ·repeat (any_goals first|simp -dsimp (maxSteps:=4000000) (maxDischargeDepth:=8) -implicitDefEqProofs [*,-Int.not_le,-Int.not_lt,amLt,ap4]|with_reducible (first|apply cB|apply iB)<;>intro _|intro _)
     ·repeat (any_goals first|simp -dsimp (maxSteps:=4000000) (maxDischargeDepth:=8) -implicitDefEqProofs [*,-Int.not_le,-Int.not_lt,amLt,ap4]|with_reducible (first|apply cB|apply iB)<;>intro _|intro _)
    ·repeat (any_goals first|simp -dsimp (maxSteps:=4000000) (maxDischargeDepth:=8) -implicitDefEqProofs [*,-Int.not_le,-Int.not_lt,amLt,ap4]|with_reducible (first|apply cB|apply iB)<;>intro _|intro _)
   ·refine ⟨.cells [.mp T 0] :: (kindY T ra ++ (intY T ra ++ ((if q=true then intY T rb else []) ++ if q=true∧w=true then [] else intY T ra))),Ccall_over rfl rfl rfl rfl ?_⟩
    clear ht ha hb la lb k2 k13 k1 hq hab
    cases q<;>cases w
    ·repeat (any_goals first|simp -dsimp (maxSteps:=4000000) (maxDischargeDepth:=8) -implicitDefEqProofs [*,-Int.not_le,-Int.not_lt,amLt,ap4]|with_reducible (first|apply cB|apply iB)<;>intro _|intro _)
    ·repeat (any_goals first|simp -dsimp (maxSteps:=4000000) (maxDischargeDepth:=8) -implicitDefEqProofs [*,-Int.not_le,-Int.not_lt,amLt,ap4]|with_reducible (first|apply cB|apply iB)<;>intro _|intro _)
    ·repeat (any_goals first|simp -dsimp (maxSteps:=4000000) (maxDischargeDepth:=8) -implicitDefEqProofs [*,-Int.not_le,-Int.not_lt,amLt,ap4]|with_reducible (first|apply cB|apply iB)<;>intro _|intro _)
    ·repeat (any_goals first|simp -dsimp (maxSteps:=4000000) (maxDischargeDepth:=8) -implicitDefEqProofs [*,-Int.not_le,-Int.not_lt,amLt,ap4]|with_reducible (first|apply cB|apply iB)<;>intro _|intro _)
end
def signedK (k:Int):Bool:=decide (k=3∨k=4∨k=6∨k=8∨k=10∨k=12)
theorem wsigned_ok (h:Heap) (k:Int):Ccall tab 125 [.int .i64 k] h=some (.bool (signedK k),h):=by
 refine Ccall_own rfl rfl rfl rfl ?_
 unfold signedK
 repeat (any_goals first|simp -dsimp (maxSteps:=4000000) (maxDischargeDepth:=8) -implicitDefEqProofs [*,-Int.not_le,-Int.not_lt,amLt]|with_reducible (first|apply cB|apply iB)<;>intro _|intro _)
theorem rsigned_ok (h:Heap) (k:Int):Ccall tab 126 [.int .i64 k] h=some (.bool (signedK k),h):=by
 refine Ccall_own rfl rfl rfl rfl ?_
 unfold signedK
 repeat (any_goals first|simp -dsimp (maxSteps:=4000000) (maxDischargeDepth:=8) -implicitDefEqProofs [*,-Int.not_le,-Int.not_lt,amLt]|with_reducible (first|apply cB|apply iB)<;>intro _|intro _)
def sgn (k s u:Int):Int:=if signedK k=true then s else u
theorem signs_ok (h:Heap) (k s u:Int):Ccall tab 97 [.int .i64 k,.int .i64 s,.int .i64 u] h=some (.int .i64 (sgn k s u),h):=by
 have h1:=fun h=>wsigned_ok h k
 refine Ccall_own rfl rfl rfl rfl ?_
 unfold sgn
 cases hs:signedK k with
 | true =>
  rw [hs] at h1
  clear hs
  repeat (any_goals first|simp -dsimp (maxSteps:=4000000) (maxDischargeDepth:=8) -implicitDefEqProofs [*,-Int.not_le,-Int.not_lt,amLt]|with_reducible (first|apply cB|apply iB)<;>intro _|intro _)
 | false =>
  rw [hs] at h1
  clear hs
  repeat (any_goals first|simp -dsimp (maxSteps:=4000000) (maxDischargeDepth:=8) -implicitDefEqProofs [*,-Int.not_le,-Int.not_lt,amLt]|with_reducible (first|apply cB|apply iB)<;>intro _|intro _)
theorem signed_ok (h:Heap) (k s u:Int):Ccall tab 98 [.int .i64 k,.int .i64 s,.int .i64 u] h=some (.int .i64 (sgn k s u),h):=by
 have h1:=fun h=>rsigned_ok h k
 refine Ccall_own rfl rfl rfl rfl ?_
 unfold sgn
 cases hs:signedK k with
 | true =>
  rw [hs] at h1
  clear hs
  repeat (any_goals first|simp -dsimp (maxSteps:=4000000) (maxDischargeDepth:=8) -implicitDefEqProofs [*,-Int.not_le,-Int.not_lt,amLt]|with_reducible (first|apply cB|apply iB)<;>intro _|intro _)
 | false =>
  rw [hs] at h1
  clear hs
  repeat (any_goals first|simp -dsimp (maxSteps:=4000000) (maxDischargeDepth:=8) -implicitDefEqProofs [*,-Int.not_le,-Int.not_lt,amLt]|with_reducible (first|apply cB|apply iB)<;>intro _|intro _)
def opC (o l r s n:Int):List AV:=[.int .i64 o,.int .i64 l,.int .i64 r,.int .i64 s,.int .i64 n]
theorem both96_ok (G:Heap) (J:Nat) (id o r:Int) (hJ:G[J]?=some (.cells [.int .i64 id])):Ccall tab 96 [.int .i64 o,.int .i64 r,.mp J 0] G=some (.tup [.agg (opC o id id r 0),.int .i64 0],G ++ [.cells (opC o id id r 0)]):=by
 have hx:=fun x=>rapp (X:=x) hJ
 refine Ccall_over rfl rfl rfl rfl ?_
 unfold opC
 repeat (any_goals first|simp -dsimp (maxSteps:=4000000) (maxDischargeDepth:=8) -implicitDefEqProofs [*,-Int.not_le,-Int.not_lt,amLt,ap4]|with_reducible (first|apply cB|apply iB)<;>intro _|intro _)
def arS (op:List UInt8) (k l:Int):List AV × Int :=
 if op=[43] then (opC 1 (k - 1) (k - 1) (k - 1) 0,0) else if op=[45] then (opC 2 (k - 1) (k - 1) (k - 1) 0,0) else if op=[42] then (opC 3 (k - 1) (k - 1) (k - 1) 0,0)
 else if op=[47] then (opC (sgn k 4 5) (k - 1) (k - 1) (k - 1) 0,0) else if op=[37] then (opC (sgn k 6 7) (k - 1) (k - 1) (k - 1) 0,0)
 else if op=[38] then (opC 8 (k - 1) (k - 1) (k - 1) 0,0) else if op=[124] then (opC 9 (k - 1) (k - 1) (k - 1) 0,0) else if op=[94] then (opC 10 (k - 1) (k - 1) (k - 1) 0,0)
 else if op=[61,61] then (opC 14 (k - 1) (k - 1) 7 0,0) else if op=[33,61] then (opC 15 (k - 1) (k - 1) 7 0,0)
 else if op=[60]∨op=[62] then (opC (sgn k 16 17) (k - 1) (k - 1) 7 0,0) else if op=[60,61]∨op=[62,61] then (opC (sgn k 18 19) (k - 1) (k - 1) 7 0,0)
 else if op=[60,60] then (opC 11 (l - 1) 7 (l - 1) 0,0) else if op=[62,62] then (opC (sgn l 12 13) (l - 1) 7 (l - 1) 0,0) else (opC 0 0 0 0 0,70)
theorem r46_told (r:Nat) (o1 o2 id k:Int) (hr:(r=13∧o1=4∧o2=5)∨(r=15∧o1=6∧o2=7)) (b25 x:AV) (op:List UInt8) (ka:AV) (E:List (Nat × AV)) :
  Brun tab 137 (.region true (if r=13 then f46r13 else f46r15) [6,7] 0) (ofL ((0,.str op) :: (1,ka) :: (6,.mp 0 0) :: (8,.int .i64 k) :: (10,.mp 1 0) :: (11,.fn 96 [] [.mp 1 0]) :: (12,x) :: (25,b25) :: E)) [.cells (opC 0 0 0 0 0),.cells [.int .i64 id]] =
   some (.normal,ofL [(6,.mp 0 0),(7,.int .i64 0)],[.cells (opC (sgn k o1 o2) id id id 0),.cells [.int .i64 id],.cells (opC (sgn k o1 o2) id id id 0)]):=by
 obtain ⟨w1,h1⟩:=acall_of (signs_ok [.cells (opC 0 0 0 0 0),.cells [.int .i64 id]] k o1 o2)
 obtain ⟨w2,h2⟩:=acall_of (both96_ok [.cells (opC 0 0 0 0 0),.cells [.int .i64 id]] 1 id (sgn k o1 o2) id rfl)
 refine Brun_told ?_
 unfold opC at *
 rcases hr with ⟨rfl,rfl,rfl⟩|⟨rfl,rfl,rfl⟩
 ·simp [*,f46r13,f46q13,asteps,astep,stepRun,aop,HC.run,HC.rds,HC.wrs,HC.ofOpt,Blk.isFree,wanted,put,cellsOf,isSc,splice,cget,slen,ssz,scells,roomy,rowsz,Cap.tight,drawOK,freeOf,Rec.indep,disj,apart,AOper.looks,AOp.tmps,AO.tmps,pTmps,oTmps,Nat.testBit,ofL,isPure,tab,f96,f97,fillp,imm,imm.immL,abin]
 ·simp [*,f46r15,f46q15,asteps,astep,stepRun,aop,HC.run,HC.rds,HC.wrs,HC.ofOpt,Blk.isFree,wanted,put,cellsOf,isSc,splice,cget,slen,ssz,scells,roomy,rowsz,Cap.tight,drawOK,freeOf,Rec.indep,disj,apart,AOper.looks,AOp.tmps,AO.tmps,pTmps,oTmps,Nat.testBit,ofL,isPure,tab,f96,f97,fillp,imm,imm.immL,abin]
theorem arith_ok (h:Heap) (op:List UInt8) (ka kb k l:Int) (hu:usual ka kb=(k,0)) (hl:promote ka (-1)=l) (hk:0≤k∧k≤100) (hlb:0≤l∧l≤100) :
  Ccall tab 46 [.str op,.int .i64 ka,.int .i64 kb] h=some (.tup [.agg (arS op k l).1,.int .i64 (arS op k l).2],h):=by
 have h1:=fun h=>usual_ok h ka kb
 rw [hu] at h1
 have h2:=fun h=>promote_ok h ka (-1)
 rw [hl] at h2
 have h3:=fun h=>rowk_ok h k hk
 have h4:=fun h=>rowk_ok h l hlb
 have h5:=fun h=>rowk_ok h 8 (by omega)
 have h6:=fun G J id o r hJ=>both96_ok G J id o r hJ
 have r13:=fun op' b25 x ka E=>r46_told 13 4 5 (k - 1) k (.inl ⟨rfl,rfl,rfl⟩) b25 x op' ka E
 have r15:=fun op' b25 x ka E=>r46_told 15 6 7 (k - 1) k (.inr ⟨rfl,rfl,rfl⟩) b25 x op' ka E
 simp only [if_true] at r13
 simp only [show ((15:Nat)=13)=False by decide,if_false] at r15
 unfold opC at *
 refine Ccall_own rfl rfl rfl rfl ?_
 unfold arS opC
 unfold f46c
 generalize ACode.region true f46r13 [6,7] 0=g13 at *
 generalize ACode.region true f46r15 [6,7] 0=g15 at *
 clear hu hl hk hlb
 repeat (any_goals first|simp -dsimp (maxSteps:=4000000) (maxDischargeDepth:=8) -implicitDefEqProofs [*,-Int.not_le,-Int.not_lt,amLt,signs_ok]|with_reducible (first|apply cB|apply iB)<;>intro _|intro _)
theorem rint101_ok (h:Heap) (k:Int):Ccall tab 101 [.int .i64 k] h=some (.bool (integerK k),h):=by
 refine Ccall_own rfl rfl rfl rfl ?_
 repeat (any_goals first|simp -dsimp (maxSteps:=4000000) (maxDischargeDepth:=8) -implicitDefEqProofs [*,-Int.not_le,-Int.not_lt,amLt,integerK]|with_reducible (first|apply cB|apply iB)<;>intro _|intro _)
theorem basic_ok (h:Heap) (k:Int) (hk:0≤k∧k≤100):Ccall tab 51 [.int .i64 k] h=some (.int .i64 (k - 1),h):=by
 have w:IntKind.i64.wrap (k - 1)=k - 1:=IntWalk.i64_in _ (by omega)
 refine Ccall_own rfl rfl rfl rfl ?_
 clear hk
 repeat (any_goals first|simp -dsimp (maxSteps:=4000000) (maxDischargeDepth:=8) -implicitDefEqProofs [*,-Int.not_le,-Int.not_lt,amLt]|with_reducible (first|apply cB|apply iB)<;>intro _|intro _)
theorem rpromote_ok (h:Heap) (k:Int):Ccall tab 58 [.int .i64 k,.int .i64 (-1)] h=some (.int .i64 (promote k (-1)),h):=by
 have h1:=fun h=>rint101_ok h k
 have h2:=fun h=>rwidth_ok h k
 unfold promote
 cases hi:integerK k with
 | false =>
  rw [hi] at h1
  refine Ccall_own rfl rfl rfl rfl ?_
  simp only [Bool.false_eq_true,if_false]
  clear hi
  repeat (any_goals first|simp -dsimp (maxSteps:=4000000) (maxDischargeDepth:=8) -implicitDefEqProofs [*,-Int.not_le,-Int.not_lt,amLt]|with_reducible (first|apply cB|apply iB)<;>intro _|intro _)
 | true =>
  rw [hi] at h1
  have hk:2≤k∧k≤12:=by unfold integerK at hi;simpa using hi
  simp only [if_true]
  by_cases c:k≤7∨k=12
  ·rw [if_pos (by omega)]
   by_cases c2:k=12
   ·subst c2
    refine Ccall_own rfl rfl rfl rfl ?_
    have hw:widthS 12=4:=rfl
    rw [hw] at h2
    clear hi hk c
    repeat (any_goals first|simp -dsimp (maxSteps:=4000000) (maxDischargeDepth:=8) -implicitDefEqProofs [*,-Int.not_le,-Int.not_lt,amLt]|with_reducible (first|apply cB|apply iB)<;>intro _|intro _)
   ·have hw:widthS k<4:=by unfold widthS;split<;>omega
    refine Ccall_own rfl rfl rfl rfl ?_
    generalize widthS k=wd at *
    clear hi hk c c2
    repeat (any_goals first|simp -dsimp (maxSteps:=4000000) (maxDischargeDepth:=8) -implicitDefEqProofs [*,-Int.not_le,-Int.not_lt,amLt]|with_reducible (first|apply cB|apply iB)<;>intro _|intro _)
  ·have hw:widthS k=4:=by unfold widthS;rw [if_neg (by omega),if_neg (by omega),if_pos (by omega)]
   rw [if_neg (by omega)]
   rw [hw] at h2
   have c2:¬ k=12:=by omega
   refine Ccall_own rfl rfl rfl rfl ?_
   clear hi hk c hw
   repeat (any_goals first|simp -dsimp (maxSteps:=4000000) (maxDischargeDepth:=8) -implicitDefEqProofs [*,-Int.not_le,-Int.not_lt,amLt]|with_reducible (first|apply cB|apply iB)<;>intro _|intro _)
theorem rusual_ok (h:Heap) (a b:Int):Ccall tab 60 [.int .i64 a,.int .i64 b] h=some (.tup [.int .i64 (usual a b).1,.int .i64 (usual a b).2],h):=by
 have h1:=fun h=>rint101_ok h a
 have h2:=fun h=>rint101_ok h b
 have h3:=fun h=>rpromote_ok h a
 have h4:=fun h=>rpromote_ok h b
 refine Ccall_own rfl rfl rfl rfl ?_
 unfold usual
 generalize integerK a=p at *
 generalize integerK b=q at *
 generalize promote a (-1)=x at *
 generalize promote b (-1)=y at *
 cases p with
 | false =>
  repeat (any_goals first|simp -dsimp (maxSteps:=4000000) (maxDischargeDepth:=8) -implicitDefEqProofs [*,-Int.not_le,-Int.not_lt,amLt]|with_reducible (first|apply cB|apply iB)<;>intro _|intro _)
 | true =>
  cases q with
  | false =>
   repeat (any_goals first|simp -dsimp (maxSteps:=4000000) (maxDischargeDepth:=8) -implicitDefEqProofs [*,-Int.not_le,-Int.not_lt,amLt]|with_reducible (first|apply cB|apply iB)<;>intro _|intro _)
  | true =>
   repeat (any_goals first|simp -dsimp (maxSteps:=4000000) (maxDischargeDepth:=8) -implicitDefEqProofs [*,-Int.not_le,-Int.not_lt,amLt]|with_reducible (first|apply cB|apply iB)<;>intro _|intro _)
   all_goals omega
def ordS (op:List UInt8) (k:Int):Int:=if op=[61,61] then 14 else if op=[33,61] then 15 else if op=[60]∨op=[62] then sgn k 16 17 else if op=[60,61]∨op=[62,61] then sgn k 18 19 else 0
theorem order_ok (h:Heap) (op:List UInt8) (k:Int):Ccall tab 54 [.str op,.int .i64 k] h=some (.int .i64 (ordS op k),h):=by
 have h1:=fun h s u=>signed_ok h k s u
 refine Ccall_own rfl rfl rfl rfl ?_
 unfold ordS
 repeat (any_goals first|simp -dsimp (maxSteps:=4000000) (maxDischargeDepth:=8) -implicitDefEqProofs [*,-Int.not_le,-Int.not_lt,amLt]|with_reducible (first|apply cB|apply iB)<;>intro _|intro _)
def plaS (op:List UInt8) (k:Int):Int:=if op=[43] then 1 else if op=[45] then 2 else if op=[42] then 3 else if op=[47] then sgn k 4 5 else if op=[37] then sgn k 6 7 else if op=[38] then 8 else if op=[124] then 9 else if op=[94] then 10 else 0
theorem plain_ok (h:Heap) (op:List UInt8) (k:Int):Ccall tab 99 [.str op,.int .i64 k] h=some (.int .i64 (plaS op k),h):=by
 have h1:=fun h s u=>signed_ok h k s u
 refine Ccall_own rfl rfl rfl rfl ?_
 unfold plaS
 repeat (any_goals first|simp -dsimp (maxSteps:=4000000) (maxDischargeDepth:=8) -implicitDefEqProofs [*,-Int.not_le,-Int.not_lt,amLt]|with_reducible (first|apply cB|apply iB)<;>intro _|intro _)
def intS (op:List UInt8) (k l:Int):List AV × Int :=
 if op=[60,60] then (opC 11 (l - 1) 7 (l - 1) 0,0) else if op=[62,62] then (opC (sgn l 12 13) (l - 1) 7 (l - 1) 0,0)
 else if ordS op k≠0 then (opC (ordS op k) (k - 1) (k - 1) 7 0,0) else if plaS op k≠0 then (opC (plaS op k) (k - 1) (k - 1) (k - 1) 0,0) else (opC 0 0 0 0 0,70)
theorem integers_ok (h:Heap) (op:List UInt8) (ka kb k l:Int) (hu:usual ka kb=(k,0)) (hl:promote ka (-1)=l) (hk:0≤k∧k≤100) (hlb:0≤l∧l≤100) :
  Ccall tab 52 [.str op,.int .i64 ka,.int .i64 kb] h=some (.tup [.agg (intS op k l).1,.int .i64 (intS op k l).2],h):=by
 have h1:=fun h=>rusual_ok h ka kb
 rw [hu] at h1
 have h2:=fun h=>rpromote_ok h ka
 rw [hl] at h2
 have h3:=fun h=>basic_ok h k hk
 have h4:=fun h=>basic_ok h l hlb
 have h5:=fun h=>basic_ok h 8 (by omega)
 have h6:=fun h s u=>signed_ok h l s u
 have h7:=fun h op=>order_ok h op k
 have h8:=fun h op=>plain_ok h op k
 refine Ccall_own rfl rfl rfl rfl ?_
 unfold intS opC
 clear hu hl hk hlb
 repeat (any_goals first|simp -dsimp (maxSteps:=4000000) (maxDischargeDepth:=8) -implicitDefEqProofs [*,-Int.not_le,-Int.not_lt,amLt]|with_reducible (first|apply cB|apply iB)<;>intro _|intro _)
theorem sgn_ne {k s u:Int} (hs:s≠0) (hu:u≠0):sgn k s u≠0:=by unfold sgn;split<;>assumption
theorem int_ar (op:List UInt8) (k l:Int):intS op k l=arS op k l:=by
 unfold intS arS ordS plaS
 have s1:=sgn_ne (k:=k) (s:=16) (u:=17) (by decide) (by decide)
 have s2:=sgn_ne (k:=k) (s:=18) (u:=19) (by decide) (by decide)
 have s3:=sgn_ne (k:=k) (s:=4) (u:=5) (by decide) (by decide)
 have s4:=sgn_ne (k:=k) (s:=6) (u:=7) (by decide) (by decide)
 by_cases c1:op=[43]
 ·subst c1;simp
 by_cases c2:op=[45]
 ·subst c2;simp
 by_cases c3:op=[42]
 ·subst c3;simp
 by_cases c4:op=[47]
 ·subst c4;simp [s3]
 by_cases c5:op=[37]
 ·subst c5;simp [s4]
 by_cases c6:op=[38]
 ·subst c6;simp
 by_cases c7:op=[124]
 ·subst c7;simp
 by_cases c8:op=[94]
 ·subst c8;simp
 by_cases c9:op=[61,61]
 ·subst c9;simp
 by_cases c10:op=[33,61]
 ·subst c10;simp
 by_cases c11:op=[60]
 ·subst c11;simp [s1]
 by_cases c12:op=[62]
 ·subst c12;simp [s1]
 by_cases c13:op=[60,61]
 ·subst c13;simp [s2]
 by_cases c14:op=[62,61]
 ·subst c14;simp [s2]
 simp [c1,c2,c3,c4,c5,c6,c7,c8,c9,c10,c11,c12,c13,c14]
section
variable {H:Heap} {T R M cap:Nat} {ex:Bool} {t:List TR}
theorem look2g_ok (ht:TabAt H T R M cap ex t) (hlo:11≤t.length) (a b:Int) (c:Cap) :
  Ccall tab 40 [.mp T 0,.is [[.int .i64 a],[.int .i64 b]] c] H=some (.int .i64 (if (hasS t a && hasS t b)=true then 0 else 30),H):=by
 have h1:=len_ok ht
 have w1:IntKind.i64.wrap 1=1:=by decide
 have w2:IntKind.i64.wrap 2=2:=by decide
 have n0:¬ (t.length:Int)=0:=by omega
 have n0':¬ t.length=0:=by omega
 rw [hasS_dec,hasS_dec]
 generalize t.length=n at *
 refine Ccall_over rfl rfl rfl rfl ?_
 clear ht hlo
 by_cases a1:a<0
 ·have a2:¬ 0≤a:=by omega
  repeat (any_goals first|simp -dsimp (maxSteps:=4000000) (maxDischargeDepth:=8) -implicitDefEqProofs [*,-Int.not_le,-Int.not_lt,amLt,ap4,Brun_loop]|with_reducible (first|apply cB|apply iB)<;>intro _|intro _)
 ·have a2:0≤a:=by omega
  by_cases a3:(n:Int)≤a
  ·have a4:¬ a<n:=by omega
   repeat (any_goals first|simp -dsimp (maxSteps:=4000000) (maxDischargeDepth:=8) -implicitDefEqProofs [*,-Int.not_le,-Int.not_lt,amLt,ap4,Brun_loop]|with_reducible (first|apply cB|apply iB)<;>intro _|intro _)
  ·have a4:a<n:=by omega
   by_cases b1:b<0
   ·have b2:¬ 0≤b:=by omega
    repeat (any_goals first|simp -dsimp (maxSteps:=4000000) (maxDischargeDepth:=8) -implicitDefEqProofs [*,-Int.not_le,-Int.not_lt,amLt,ap4,Brun_loop]|with_reducible (first|apply cB|apply iB)<;>intro _|intro _)
   ·have b2:0≤b:=by omega
    by_cases b3:(n:Int)≤b
    ·have b4:¬ b<n:=by omega
     repeat (any_goals first|simp -dsimp (maxSteps:=4000000) (maxDischargeDepth:=8) -implicitDefEqProofs [*,-Int.not_le,-Int.not_lt,amLt,ap4,Brun_loop]|with_reducible (first|apply cB|apply iB)<;>intro _|intro _)
    ·have b4:b<n:=by omega
     repeat (any_goals first|simp -dsimp (maxSteps:=4000000) (maxDischargeDepth:=8) -implicitDefEqProofs [*,-Int.not_le,-Int.not_lt,amLt,ap4,Brun_loop]|with_reducible (first|apply cB|apply iB)<;>intro _|intro _)
theorem look1g_ok (ht:TabAt H T R M cap ex t) (hlo:11≤t.length) (a:Int) (c:Cap) :
  Ccall tab 40 [.mp T 0,.is [[.int .i64 a]] c] H=some (.int .i64 (if hasS t a=true then 0 else 30),H):=by
 have h1:=len_ok ht
 have w1:IntKind.i64.wrap 1=1:=by decide
 have n0:¬ (t.length:Int)=0:=by omega
 have n0':¬ t.length=0:=by omega
 rw [hasS_dec]
 generalize t.length=n at *
 refine Ccall_over rfl rfl rfl rfl ?_
 clear ht hlo
 by_cases a1:a<0
 ·have a2:¬ 0≤a:=by omega
  repeat (any_goals first|simp -dsimp (maxSteps:=4000000) (maxDischargeDepth:=8) -implicitDefEqProofs [*,-Int.not_le,-Int.not_lt,amLt,ap4,Brun_loop]|with_reducible (first|apply cB|apply iB)<;>intro _|intro _)
 ·have a2:0≤a:=by omega
  by_cases a3:(n:Int)≤a
  ·have a4:¬ a<n:=by omega
   repeat (any_goals first|simp -dsimp (maxSteps:=4000000) (maxDischargeDepth:=8) -implicitDefEqProofs [*,-Int.not_le,-Int.not_lt,amLt,ap4,Brun_loop]|with_reducible (first|apply cB|apply iB)<;>intro _|intro _)
  ·have a4:a<n:=by omega
   repeat (any_goals first|simp -dsimp (maxSteps:=4000000) (maxDischargeDepth:=8) -implicitDefEqProofs [*,-Int.not_le,-Int.not_lt,amLt,ap4,Brun_loop]|with_reducible (first|apply cB|apply iB)<;>intro _|intro _)
end
theorem beside1 {A:Tab} {g:Nat} {args:List AV} {H:Heap} {J:Nat} {b:Blk} {v:AV} {Y:Heap} (hJ:H[J]?=some b) (hc:Ccall A g args (H.set J .free)=some (v,H.set J .free ++ Y)):∃ w,Acall A g args H=some (v,H ++ Y,w)∧¬ J ∈ w:=by
 have lJ:=(List.getElem?_eq_some_iff.1 hJ).1
 obtain ⟨w,hA⟩:=acall_of hc
 obtain ⟨hA,wJ,_⟩:=Acall_beside (b:=b) hJ hA
 have e:(H.set J .free ++ Y).set J b=H ++ Y:=by
  rw [List.set_append_left _ _ (by rw [List.length_set];exact lJ),List.set_set,set_id hJ]
 rw [e] at hA
 exact ⟨w,hA,by simpa using wJ⟩
theorem TabAt.free {H:Heap} {T R M cap J:Nat} {ex:Bool} {t:List TR} (ht:TabAt H T R M cap ex t) (h1:J≠T) (h2:J≠R):TabAt (H.set J .free) T R M cap ex t:=by
 have a0:=ht.t0
 have b0:=ht.r0
 exact ⟨fun x=>by rw [List.getElem?_append_left (by rw [List.length_set];exact (List.getElem?_eq_some_iff.1 a0).1),List.getElem?_set_ne h1];exact a0,fun x=>by rw [List.getElem?_append_left (by rw [List.length_set];exact (List.getElem?_eq_some_iff.1 b0).1),List.getElem?_set_ne h2];exact b0⟩
section
variable {t:List TR} {rho:Nat→Nat} {F T R M:Nat}
theorem elem_calls (hx:Tbl t rho F) (H:Heap) (ht:TabAt H T R M t.length false t) {p:Int} {rp:TR} (hg:getT t p=some rp) {J:Nat} {b:Blk} (hJ:H[J]?=some b) (hn:J≠T∧J≠R) :
  ∃ Y w1 w2,Acall tab 41 [.agg [.mp T 0],.int .i64 p] H=some (.agg (trow (eraseT rp)),H ++ rowY T rp,w1)∧¬ J ∈ w1∧Acall tab 66 [.mp T 0,.int .i64 rp.elem] (H ++ rowY T rp)=some (.tup [.int .i64 (sizE t F rp.elem),.int .i64 (begE t F rp.elem)],H ++ (rowY T rp ++ Y),w2):=by
 have hsz:=hx.sz rp (List.mem_of_getElem? (getT_some hg).2)
 obtain ⟨w1,a1,a2⟩:=beside1 hJ (arow_ok (ht.free hn.1 hn.2) hg hsz)
 obtain ⟨Y,hs⟩:=size_ok hx (H ++ rowY T rp) (ht.app _) rp.elem
 obtain ⟨w2,hs2⟩:=acall_of hs
 exact ⟨Y,w1,w2,a1,a2,by rw [← List.append_assoc];exact hs2⟩
theorem r48_told (hx:Tbl t rho F) (H:Heap) (ht:TabAt H T R M t.length false t) {p:Int} {rp:TR} (hg:getT t p=some rp) {J:Nat} (hJ:H[J]?=some (.cells [.mp T 0])) (hn:J≠T∧J≠R) (x4 x6:AV) :
  ∃ Y,Brun tab 29 (.region true f48r1 [2,4,6,8,9] 0) (ofL [(2,.int .i64 p),(3,.mp J 0),(4,x4),(6,x6)]) H=some (.normal,ofL [(2,.int .i64 p),(4,x4),(6,x6),(8,.int .i64 (sizE t F rp.elem)),(9,.int .i64 (begE t F rp.elem))],H ++ Y):=by
 obtain ⟨Y,w1,w2,a1,a2,a3⟩:=elem_calls hx H ht hg hJ hn
 have lJ:=(List.getElem?_eq_some_iff.1 hJ).1
 have fJ:∀ hh,H[J]'hh=_:=fun hh=>(List.getElem?_eq_some_iff.1 hJ).2
 refine ⟨rowY T rp ++ Y,?_⟩
 refine Brun_told ?_
 unfold trow eraseT at a1
 generalize rowY T rp=RY at *
 generalize sizE t F rp.elem=sz at *
 generalize begE t F rp.elem=be at *
 clear ht hx hg hn
 simp [*,f48r1,f48q1,asteps,astep,stepRun,aop,HC.run,HC.rds,HC.wrs,HC.ofOpt,Blk.isFree,wanted,put,cellsOf,isSc,splice,cget,slen,ssz,scells,roomy,rowsz,Cap.tight,drawOK,freeOf,Rec.indep,disj,apart,AOper.looks,AOp.tmps,AO.tmps,pTmps,oTmps,Nat.testBit,ofL,isPure,tab,f41,f66,fillp,imm,imm.immL,abin]
theorem r47_told (hx:Tbl t rho F) (H:Heap) (ht:TabAt H T R M t.length false t) {p:Int} {rp:TR} (hg:getT t p=some rp) {J:Nat} (hJ:H[J]?=some (.cells [.mp T 0])) (hn:J≠T∧J≠R) (x8 x10 x11:AV) (E:List (Nat × AV)) :
  ∃ Y,Brun tab 83 (.region true f47r6 [8,10,12,13] 0) (ofL ((2,.int .i64 p) :: (4,.mp J 0) :: (8,x8) :: (10,x10) :: (11,x11) :: E)) H=some (.normal,ofL [(8,x8),(10,x10),(12,.int .i64 (sizE t F rp.elem)),(13,.int .i64 (begE t F rp.elem))],H ++ Y):=by
 obtain ⟨Y,w1,w2,a1,a2,a3⟩:=elem_calls hx H ht hg hJ hn
 have lJ:=(List.getElem?_eq_some_iff.1 hJ).1
 have fJ:∀ hh,H[J]'hh=_:=fun hh=>(List.getElem?_eq_some_iff.1 hJ).2
 refine ⟨rowY T rp ++ Y,?_⟩
 refine Brun_told ?_
 unfold trow eraseT at a1
 generalize rowY T rp=RY at *
 generalize sizE t F rp.elem=sz at *
 generalize begE t F rp.elem=be at *
 clear ht hx hg hn
 simp [*,f47r6,f47q6,asteps,astep,stepRun,aop,HC.run,HC.rds,HC.wrs,HC.ofOpt,Blk.isFree,wanted,put,cellsOf,isSc,splice,cget,slen,ssz,scells,roomy,rowsz,Cap.tight,drawOK,freeOf,Rec.indep,disj,apart,AOper.looks,AOp.tmps,AO.tmps,pTmps,oTmps,Nat.testBit,ofL,isPure,tab,f41,f66,fillp,imm,imm.immL,abin]
def movV (t:List TR) (F:Nat) (o l r p e:Int):List AV:=if begE t F e=0 then opC o l r p (sizE t F e) else opC 0 0 0 0 0
theorem moved_ok (hx:Tbl t rho F) (H:Heap) (ht:TabAt H T R M t.length false t) {p:Int} {rp:TR} (hg:getT t p=some rp) (o l r:Int) :
  ∃ Y,Ccall tab 48 [.agg [.mp T 0],.agg (opC o l r 0 0),.int .i64 p] H=some (.tup [.agg (movV t F o l r p rp.elem),.int .i64 (begE t F rp.elem)],H ++ Y):=by
 have uT:=(List.getElem?_eq_some_iff.1 ht.t0).1
 have uR:=(List.getElem?_eq_some_iff.1 ht.r0).1
 obtain ⟨K,hK⟩:∃ K:Heap,K=H ++ [.cells [.mp T 0],.cells (opC o l r 0 0),.cells (opC 0 0 0 0 0)]:=⟨_,rfl⟩
 have lK:K.length=H.length+3:=by rw [hK];simp
 have kJ:K[H.length]?=some (.cells [.mp T 0]):=by rw [hK,List.getElem?_append_right (Nat.le_refl _),Nat.sub_self];rfl
 have k4:∀ y,(K ++ y)[H.length+1]?=some (.cells (opC o l r 0 0)):=fun y=>by rw [hK,List.append_assoc,List.getElem?_append_right (by omega),Nat.add_sub_cancel_left];rfl
 have k6:∀ y,(K ++ y)[H.length+2]?=some (.cells (opC 0 0 0 0 0)):=fun y=>by rw [hK,List.append_assoc,List.getElem?_append_right (by omega),Nat.add_sub_cancel_left];rfl
 obtain ⟨Y,h1⟩:=r48_told hx K (by rw [hK];exact ht.app _) hg kJ ⟨by omega,by omega⟩ (.mp (H.length+1) 0) (.mp (H.length+2) 0)
 unfold movV
 by_cases h0:begE t F rp.elem=0
 ·rw [if_pos h0,h0]
  rw [h0] at h1
  refine ⟨[.cells [.mp T 0],.cells (opC o l r p (sizE t F rp.elem)),.cells (opC o l r p (sizE t F rp.elem))] ++ Y,?_⟩
  refine Ccall_over rfl rfl rfl rfl ?_
  rw [hK] at h1 k4 k6
  unfold opC at *
  generalize sizE t F rp.elem=sz at *
  unfold f48c
  generalize ACode.region true f48r1 [2,4,6,8,9] 0=rg at *
  simp only [List.append_assoc,List.cons_append,List.nil_append] at *
  clear ht hx hg uT uR hK lK kJ h0
  repeat (any_goals first|simp -dsimp (maxSteps:=4000000) (maxDischargeDepth:=8) -implicitDefEqProofs [*,-Int.not_le,-Int.not_lt,amLt,ap4]|with_reducible (first|apply cB|apply iB)<;>intro _|intro _)
 ·rw [if_neg h0]
  refine ⟨[.cells [.mp T 0],.cells (opC o l r 0 0),.cells (opC 0 0 0 0 0)] ++ Y,?_⟩
  refine Ccall_over rfl rfl rfl rfl ?_
  rw [hK] at h1 k4 k6
  unfold opC at *
  generalize sizE t F rp.elem=sz at *
  generalize begE t F rp.elem=be at *
  unfold f48c
  generalize ACode.region true f48r1 [2,4,6,8,9] 0=rg at *
  simp only [List.append_assoc,List.cons_append,List.nil_append] at *
  clear ht hx hg uT uR hK lK kJ
  repeat (any_goals first|simp -dsimp (maxSteps:=4000000) (maxDischargeDepth:=8) -implicitDefEqProofs [*,-Int.not_le,-Int.not_lt,amLt,ap4]|with_reducible (first|apply cB|apply iB)<;>intro _|intro _)
end
def ptrS (t:List TR) (F:Nat) (op:List UInt8) (a b:Int) (ra rb:TR):List AV × Int :=
 if op=[45] then (if a=b then (movV t F 2 a a 7 ra.elem,begE t F ra.elem) else (opC 0 0 0 0 0,70))
 else if op=[61,61] then (if a=b∨anyB ra=true∨anyB rb=true then (opC 14 a a 7 0,0) else (opC 0 0 0 0 0,70))
 else if op=[33,61] then (if a=b∨anyB ra=true∨anyB rb=true then (opC 15 a a 7 0,0) else (opC 0 0 0 0 0,70))
 else if op=[60]∨op=[62] then (if a=b then (opC 17 a a 7 0,0) else (opC 0 0 0 0 0,70))
 else if op=[60,61]∨op=[62,61] then (if a=b then (opC 19 a a 7 0,0) else (opC 0 0 0 0 0,70))
 else (opC 0 0 0 0 0,70)
section
variable {t:List TR} {rho:Nat→Nat} {F T R M:Nat}
theorem ptr_ok (hx:Tbl t rho F) (H:Heap) (ht:TabAt H T R M t.length false t) (op:List UInt8) {a b:Int} {ra rb:TR} (ha:getT t a=some ra) (hb:getT t b=some rb) :
  ∃ Y,Ccall tab 47 [.agg [.mp T 0],.str op,.int .i64 a,.int .i64 b] H=some (.tup [.agg (ptrS t F op a b ra rb).1,.int .i64 (ptrS t F op a b ra rb).2],H ++ Y):=by
 have uT:=(List.getElem?_eq_some_iff.1 ht.t0).1
 have uR:=(List.getElem?_eq_some_iff.1 ht.r0).1
 have la:=hx.sz ra (List.mem_of_getElem? (getT_some ha).2)
 have lb:=hx.sz rb (List.mem_of_getElem? (getT_some hb).2)
 have h5:=fun h=>rowk_ok h 8 (by omega)
 have s87:(8:Int) - 1=7:=by decide
 rw [s87] at h5
 by_cases c1:op=[45]
 ·subst c1
  have e:ptrS t F [45] a b ra rb=if a=b then (movV t F 2 a a 7 ra.elem,begE t F ra.elem) else (opC 0 0 0 0 0,70):=rfl
  rw [e]
  by_cases cab:a=b
  ·rw [if_pos cab]
   subst cab
   obtain ⟨K,hK⟩:∃ K:Heap,K=H ++ [.cells [.mp T 0],.cells (opC 0 0 0 0 0),.cells (opC 0 a a 7 0)]:=⟨_,rfl⟩
   have lK:K.length=H.length+3:=by rw [hK];simp
   have kJ:K[H.length]?=some (.cells [.mp T 0]):=by rw [hK,List.getElem?_append_right (Nat.le_refl _),Nat.sub_self];rfl
   obtain ⟨Y,h1⟩:=r47_told hx K (by rw [hK];exact ht.app _) ha kJ ⟨by omega,by omega⟩ (.mp (H.length+1) 0) (.mp (H.length+2) 0) (.bool true) [(25,.bool false)]
   unfold movV
   by_cases h0:begE t F ra.elem=0
   ·rw [if_pos h0,h0]
    rw [h0] at h1
    refine ⟨[.cells [.mp T 0],.cells (opC 2 a a 7 (sizE t F ra.elem)),.cells (opC 2 a a 7 (sizE t F ra.elem))] ++ Y,?_⟩
    refine Ccall_over rfl rfl rfl rfl ?_
    rw [hK] at h1
    unfold opC at *
    generalize sizE t F ra.elem=sz at *
    unfold f47c
    generalize ACode.region true f47r6 [8,10,12,13] 0=rg at *
    simp only [List.append_assoc,List.cons_append,List.nil_append] at *
    clear ht hx ha hb la lb uT uR hK lK kJ h0 e
    repeat (any_goals first|simp -dsimp (maxSteps:=4000000) (maxDischargeDepth:=8) -implicitDefEqProofs [*,-Int.not_le,-Int.not_lt,amLt,ap4]|with_reducible (first|apply cB|apply iB)<;>intro _|intro _)
   ·rw [if_neg h0]
    refine ⟨[.cells [.mp T 0],.cells (opC 0 0 0 0 0),.cells (opC 0 a a 7 0)] ++ Y,?_⟩
    refine Ccall_over rfl rfl rfl rfl ?_
    rw [hK] at h1
    unfold opC at *
    generalize sizE t F ra.elem=sz at *
    generalize begE t F ra.elem=be at *
    unfold f47c
    generalize ACode.region true f47r6 [8,10,12,13] 0=rg at *
    simp only [List.append_assoc,List.cons_append,List.nil_append] at *
    clear ht hx ha hb la lb uT uR hK lK kJ e
    repeat (any_goals first|simp -dsimp (maxSteps:=4000000) (maxDischargeDepth:=8) -implicitDefEqProofs [*,-Int.not_le,-Int.not_lt,amLt,ap4]|with_reducible (first|apply cB|apply iB)<;>intro _|intro _)
  ·rw [if_neg cab]
   refine ⟨[.cells [.mp T 0],.cells (opC 0 0 0 0 0),.cells (opC 0 a a 7 0)],?_⟩
   refine Ccall_over rfl rfl rfl rfl ?_
   unfold opC at *
   clear ht hx ha hb la lb uT uR e
   repeat (any_goals first|simp -dsimp (maxSteps:=4000000) (maxDischargeDepth:=8) -implicitDefEqProofs [*,-Int.not_le,-Int.not_lt,amLt,ap4]|with_reducible (first|apply cB|apply iB)<;>intro _|intro _)
 ·have eqs:∀ (o:Int) (op':List UInt8),(op'=[61,61]∧o=14)∨(op'=[33,61]∧o=15) →
    ∃ Y,Ccall tab 47 [.agg [.mp T 0],.str op',.int .i64 a,.int .i64 b] H=some (.tup [.agg (if a=b∨anyB ra=true∨anyB rb=true then opC o a a 7 0 else opC 0 0 0 0 0),.int .i64 (if a=b∨anyB ra=true∨anyB rb=true then 0 else 70)],H ++ Y):=by
   intro o op' ho
   have h1:=fun x=>any_ok (ht.app x) ha la
   have h2:=fun x=>any_ok (ht.app x) hb lb
   by_cases cab:a=b
   ·refine ⟨[.cells [.mp T 0],.cells (opC o a a 7 0),.cells (opC o a a 7 0)],?_⟩
    rw [if_pos (.inl cab),if_pos (.inl cab)]
    subst cab
    refine Ccall_over rfl rfl rfl rfl ?_
    unfold opC at *
    clear ht hx ha hb la lb uT uR c1 h1 h2
    rcases ho with ⟨rfl,rfl⟩|⟨rfl,rfl⟩
    ·repeat (any_goals first|simp -dsimp (maxSteps:=4000000) (maxDischargeDepth:=8) -implicitDefEqProofs [*,-Int.not_le,-Int.not_lt,amLt,ap4]|with_reducible (first|apply cB|apply iB)<;>intro _|intro _)
    ·repeat (any_goals first|simp -dsimp (maxSteps:=4000000) (maxDischargeDepth:=8) -implicitDefEqProofs [*,-Int.not_le,-Int.not_lt,amLt,ap4]|with_reducible (first|apply cB|apply iB)<;>intro _|intro _)
   ·cases va:anyB ra with
    | true =>
     rw [va] at h1
     refine ⟨[.cells [.mp T 0],.cells (opC o a a 7 0),.cells (opC o a a 7 0)] ++ anyY T ra,?_⟩
     simp only [cab,true_or,or_true,if_true]
     refine Ccall_over rfl rfl rfl rfl ?_
     unfold opC at *
     generalize anyY T ra=YA at *
     clear ht hx ha hb la lb uT uR c1 h2 va
     rcases ho with ⟨rfl,rfl⟩|⟨rfl,rfl⟩
     ·repeat (any_goals first|simp -dsimp (maxSteps:=4000000) (maxDischargeDepth:=8) -implicitDefEqProofs [*,-Int.not_le,-Int.not_lt,amLt,ap4]|with_reducible (first|apply cB|apply iB)<;>intro _|intro _)
     ·repeat (any_goals first|simp -dsimp (maxSteps:=4000000) (maxDischargeDepth:=8) -implicitDefEqProofs [*,-Int.not_le,-Int.not_lt,amLt,ap4]|with_reducible (first|apply cB|apply iB)<;>intro _|intro _)
    | false =>
     rw [va] at h1
     cases vb:anyB rb with
     | true =>
      rw [vb] at h2
      refine ⟨[.cells [.mp T 0],.cells (opC o a a 7 0),.cells (opC o a a 7 0)] ++ (anyY T ra ++ anyY T rb),?_⟩
      simp only [cab,or_true,if_true]
      refine Ccall_over rfl rfl rfl rfl ?_
      unfold opC at *
      generalize anyY T ra=YA at *
      generalize anyY T rb=YB at *
      clear ht hx ha hb la lb uT uR c1 va vb
      rcases ho with ⟨rfl,rfl⟩|⟨rfl,rfl⟩
      ·repeat (any_goals first|simp -dsimp (maxSteps:=4000000) (maxDischargeDepth:=8) -implicitDefEqProofs [*,-Int.not_le,-Int.not_lt,amLt,ap4]|with_reducible (first|apply cB|apply iB)<;>intro _|intro _)
      ·repeat (any_goals first|simp -dsimp (maxSteps:=4000000) (maxDischargeDepth:=8) -implicitDefEqProofs [*,-Int.not_le,-Int.not_lt,amLt,ap4]|with_reducible (first|apply cB|apply iB)<;>intro _|intro _)
     | false =>
      rw [vb] at h2
      refine ⟨[.cells [.mp T 0],.cells (opC 0 0 0 0 0),.cells (opC 0 a a 7 0)] ++ (anyY T ra ++ anyY T rb),?_⟩
      simp only [cab,Bool.false_eq_true,or_false,if_false]
      refine Ccall_over rfl rfl rfl rfl ?_
      unfold opC at *
      generalize anyY T ra=YA at *
      generalize anyY T rb=YB at *
      clear ht hx ha hb la lb uT uR c1 va vb
      rcases ho with ⟨rfl,rfl⟩|⟨rfl,rfl⟩
      ·repeat (any_goals first|simp -dsimp (maxSteps:=4000000) (maxDischargeDepth:=8) -implicitDefEqProofs [*,-Int.not_le,-Int.not_lt,amLt,ap4]|with_reducible (first|apply cB|apply iB)<;>intro _|intro _)
      ·repeat (any_goals first|simp -dsimp (maxSteps:=4000000) (maxDischargeDepth:=8) -implicitDefEqProofs [*,-Int.not_le,-Int.not_lt,amLt,ap4]|with_reducible (first|apply cB|apply iB)<;>intro _|intro _)
  by_cases c2:op=[61,61]
  ·subst c2
   obtain ⟨Y,h⟩:=eqs 14 _ (.inl ⟨rfl,rfl⟩)
   refine ⟨Y,?_⟩
   rw [h]
   have e:ptrS t F [61,61] a b ra rb=if a=b∨anyB ra=true∨anyB rb=true then (opC 14 a a 7 0,0) else (opC 0 0 0 0 0,70):=rfl
   rw [e]
   split<;>rfl
  ·by_cases c3:op=[33,61]
   ·subst c3
    obtain ⟨Y,h⟩:=eqs 15 _ (.inr ⟨rfl,rfl⟩)
    refine ⟨Y,?_⟩
    rw [h]
    have e:ptrS t F [33,61] a b ra rb=if a=b∨anyB ra=true∨anyB rb=true then (opC 15 a a 7 0,0) else (opC 0 0 0 0 0,70):=rfl
    rw [e]
    split<;>rfl
   ·clear eqs
    unfold ptrS
    rw [if_neg c1,if_neg c2,if_neg c3]
    by_cases c4:op=[60]∨op=[62]
    ·rw [if_pos c4]
     by_cases cab:a=b
     ·rw [if_pos cab]
      subst cab
      refine ⟨[.cells [.mp T 0],.cells (opC 17 a a 7 0),.cells (opC 17 a a 7 0)],?_⟩
      refine Ccall_over rfl rfl rfl rfl ?_
      unfold opC at *
      clear ht hx ha hb la lb uT uR
      rcases c4 with rfl|rfl
      ·repeat (any_goals first|simp -dsimp (maxSteps:=4000000) (maxDischargeDepth:=8) -implicitDefEqProofs [*,-Int.not_le,-Int.not_lt,amLt,ap4]|with_reducible (first|apply cB|apply iB)<;>intro _|intro _)
      ·repeat (any_goals first|simp -dsimp (maxSteps:=4000000) (maxDischargeDepth:=8) -implicitDefEqProofs [*,-Int.not_le,-Int.not_lt,amLt,ap4]|with_reducible (first|apply cB|apply iB)<;>intro _|intro _)
     ·rw [if_neg cab]
      refine ⟨[.cells [.mp T 0],.cells (opC 0 0 0 0 0),.cells (opC 17 a a 7 0)],?_⟩
      refine Ccall_over rfl rfl rfl rfl ?_
      unfold opC at *
      clear ht hx ha hb la lb uT uR
      rcases c4 with rfl|rfl
      ·repeat (any_goals first|simp -dsimp (maxSteps:=4000000) (maxDischargeDepth:=8) -implicitDefEqProofs [*,-Int.not_le,-Int.not_lt,amLt,ap4]|with_reducible (first|apply cB|apply iB)<;>intro _|intro _)
      ·repeat (any_goals first|simp -dsimp (maxSteps:=4000000) (maxDischargeDepth:=8) -implicitDefEqProofs [*,-Int.not_le,-Int.not_lt,amLt,ap4]|with_reducible (first|apply cB|apply iB)<;>intro _|intro _)
    ·rw [if_neg c4]
     by_cases c5:op=[60,61]∨op=[62,61]
     ·rw [if_pos c5]
      by_cases cab:a=b
      ·rw [if_pos cab]
       subst cab
       refine ⟨[.cells [.mp T 0],.cells (opC 19 a a 7 0),.cells (opC 19 a a 7 0)],?_⟩
       refine Ccall_over rfl rfl rfl rfl ?_
       unfold opC at *
       clear ht hx ha hb la lb uT uR c4
       rcases c5 with rfl|rfl
       ·repeat (any_goals first|simp -dsimp (maxSteps:=4000000) (maxDischargeDepth:=8) -implicitDefEqProofs [*,-Int.not_le,-Int.not_lt,amLt,ap4]|with_reducible (first|apply cB|apply iB)<;>intro _|intro _)
       ·repeat (any_goals first|simp -dsimp (maxSteps:=4000000) (maxDischargeDepth:=8) -implicitDefEqProofs [*,-Int.not_le,-Int.not_lt,amLt,ap4]|with_reducible (first|apply cB|apply iB)<;>intro _|intro _)
      ·rw [if_neg cab]
       refine ⟨[.cells [.mp T 0],.cells (opC 0 0 0 0 0),.cells (opC 19 a a 7 0)],?_⟩
       refine Ccall_over rfl rfl rfl rfl ?_
       unfold opC at *
       clear ht hx ha hb la lb uT uR c4
       rcases c5 with rfl|rfl
       ·repeat (any_goals first|simp -dsimp (maxSteps:=4000000) (maxDischargeDepth:=8) -implicitDefEqProofs [*,-Int.not_le,-Int.not_lt,amLt,ap4]|with_reducible (first|apply cB|apply iB)<;>intro _|intro _)
       ·repeat (any_goals first|simp -dsimp (maxSteps:=4000000) (maxDischargeDepth:=8) -implicitDefEqProofs [*,-Int.not_le,-Int.not_lt,amLt,ap4]|with_reducible (first|apply cB|apply iB)<;>intro _|intro _)
     ·rw [if_neg c5]
      simp only [not_or] at c4 c5
      obtain ⟨c6,c7⟩:=c4
      obtain ⟨c8,c9⟩:=c5
      refine ⟨[.cells [.mp T 0],.cells (opC 0 0 0 0 0),.cells (opC 0 a a 7 0)],?_⟩
      refine Ccall_over rfl rfl rfl rfl ?_
      unfold opC at *
      clear ht hx ha hb la lb uT uR
      repeat (any_goals first|simp -dsimp (maxSteps:=4000000) (maxDischargeDepth:=8) -implicitDefEqProofs [*,-Int.not_le,-Int.not_lt,amLt,ap4]|with_reducible (first|apply cB|apply iB)<;>intro _|intro _)
end
def arV (op:List UInt8) (ka kb:Int):List AV × Int:=arS op (usual ka kb).1 (promote ka (-1))
def binS (t:List TR) (F:Nat) (op:List UInt8) (a b:Int) (ra rb:TR):List AV × Int :=
 if (integerK ra.kind && integerK rb.kind)=true then arV op ra.kind rb.kind
 else if ra.kind=13∧rb.kind=13 then ptrS t F op a b ra rb
 else if ra.kind=13∧integerK rb.kind=true∧op=[43] then (movV t F 1 a 7 a ra.elem,begE t F ra.elem)
 else if ra.kind=13∧integerK rb.kind=true∧op=[45] then (movV t F 2 a 7 a ra.elem,begE t F ra.elem)
 else if integerK ra.kind=true∧rb.kind=13∧op=[43] then (movV t F 1 7 b b rb.elem,begE t F rb.elem)
 else (opC 0 0 0 0 0,70)
theorem whole49_ok (h:Heap):Ccall tab 49 [] h=some (.int .i64 7,h):=by
 have h5:=fun h=>rowk_ok h 8 (by omega)
 have s87:(8:Int) - 1=7:=by decide
 rw [s87] at h5
 refine Ccall_own rfl rfl rfl rfl ?_
 repeat (any_goals first|simp -dsimp (maxSteps:=4000000) (maxDischargeDepth:=8) -implicitDefEqProofs [*,-Int.not_le,-Int.not_lt,amLt]|with_reducible (first|apply cB|apply iB)<;>intro _|intro _)
theorem usual_in {k l:Int} (h1:integerK k=true) (h2:integerK l=true):usual k l=((usual k l).1,0)∧0≤(usual k l).1∧(usual k l).1≤100:=by
 unfold usual
 rw [if_pos ⟨h1,h2⟩]
 refine ⟨rfl,?_⟩
 dsimp only
 repeat' split
 all_goals omega
theorem promote_in2 {k:Int} (h:integerK k=true):0≤promote k (-1)∧promote k (-1)≤100:=by
 have hk:2≤k∧k≤12:=by unfold integerK at h;simpa using h
 unfold promote
 rw [if_pos h]
 split<;>omega
def IsOp (x:List AV × Int):Prop:=∃ o a b c d,x.1=opC o a b c d
theorem isOp_ite {c:Prop} [Decidable c] {x y:List AV × Int} (hx:IsOp x) (hy:IsOp y):IsOp (if c then x else y):=by
 split
 ·exact hx
 ·exact hy
theorem opC_of (op:List UInt8) (k l:Int):IsOp (arS op k l):=by
 unfold arS
 repeat (refine isOp_ite ⟨_,_,_,_,_,rfl⟩ ?_)
 exact ⟨_,_,_,_,_,rfl⟩
section
variable {t:List TR} {rho:Nat→Nat} {F T R M:Nat}
theorem r17_7 (hx:Tbl t rho F) (K:Heap) (ht:TabAt K T R M t.length false t) (op:List UInt8) {a b:Int} {ra rb:TR} (ha:getT t a=some ra) (hb:getT t b=some rb) (i1:integerK ra.kind=true) (i2:integerK rb.kind=true) {J L:Nat} (hJ:K[J]?=some (.cells [.mp T 0])) (hL:K[L]?=some (.cells (opC 0 0 0 0 0))) (hn:J≠T∧J≠R) (x12:AV) (E:List (Nat × AV)) :
  Brun tab 125 (.region true f17r7 [8,9] 0) (ofL ((1,.str op) :: (2,.int .i64 a) :: (3,.int .i64 b) :: (8,.mp L 0) :: (11,.mp J 0) :: (12,x12) :: E)) K=some (.normal,ofL [(8,.mp L 0),(9,.int .i64 (arV op ra.kind rb.kind).2)],(K ++ (kindY T ra ++ kindY T rb)).set L (.cells (arV op ra.kind rb.kind).1)):=by
 have la:=hx.sz ra (List.mem_of_getElem? (getT_some ha).2)
 have lb:=hx.sz rb (List.mem_of_getElem? (getT_some hb).2)
 have lJ:=(List.getElem?_eq_some_iff.1 hJ).1
 have lL:=(List.getElem?_eq_some_iff.1 hL).1
 obtain ⟨w1,a1,a2⟩:=beside1 hJ (akind_ok (ht.free hn.1 hn.2) ha la)
 obtain ⟨w2,a3⟩:=acall_of (akind_ok (ht.app (kindY T ra)) hb lb)
 obtain ⟨u1,u2,u3⟩:=usual_in i1 i2
 obtain ⟨w3,a4⟩:=acall_of (arith_ok (K ++ (kindY T ra ++ kindY T rb)) op ra.kind rb.kind _ _ u1 rfl ⟨u2,u3⟩ (promote_in2 i1))
 rw [List.append_assoc] at a3
 obtain ⟨o,p,q,r,s,ho⟩:=opC_of op (usual ra.kind rb.kind).1 (promote ra.kind (-1))
 have hv:arV op ra.kind rb.kind=arS op (usual ra.kind rb.kind).1 (promote ra.kind (-1)):=rfl
 rw [ho] at a4
 rw [hv,ho]
 generalize (arS op (usual ra.kind rb.kind).1 (promote ra.kind (-1))).2=er at *
 have fJ:∀ x hh,(K ++ x)[J]'hh=_:=fun x hh=>(List.getElem?_eq_some_iff.1 (rapp hJ x)).2
 have fJ0:∀ hh,K[J]'hh=_:=fun hh=>(List.getElem?_eq_some_iff.1 hJ).2
 have gJ:=fun x=>rapp hJ x
 have fL:∀ x hh,(K ++ x)[L]'hh=_:=fun x hh=>(List.getElem?_eq_some_iff.1 (rapp hL x)).2
 have gL:=fun x=>rapp hL x
 have m1:∀ x:Nat,J<K.length+x:=fun x=>by omega
 have m2:∀ x:Nat,L<K.length+x:=fun x=>by omega
 refine Brun_told ?_
 unfold opC at *
 generalize kindY T ra=YA at *
 generalize kindY T rb=YB at *
 clear ht hx ha hb la lb hn u1 u2 u3 i1 i2 ho hv
 simp [*,f17r7,f17q7,asteps,astep,stepRun,aop,HC.run,HC.rds,HC.wrs,HC.ofOpt,Blk.isFree,wanted,put,cellsOf,isSc,splice,cget,slen,ssz,scells,roomy,rowsz,Cap.tight,drawOK,freeOf,Rec.indep,disj,apart,AOper.looks,AOp.tmps,AO.tmps,pTmps,oTmps,Nat.testBit,ofL,isPure,tab,f44,f46,fillp,imm,imm.immL,abin]
theorem r17_mov (i:Nat) (hi:i=11∨i=13) (hx:Tbl t rho F) (K:Heap) (ht:TabAt K T R M t.length false t) {a:Int} {ra:TR} (ha:getT t a=some ra) {J L:Nat} (hJ:K[J]?=some (.cells [.mp T 0])) (hL:K[L]?=some (.cells (opC 0 0 0 0 0))) (x1 x3 x12:AV) (E:List (Nat × AV)) :
  ∃ Y,Brun tab 125 (.region true (if i=11 then f17r11 else f17r13) [8,9] 0) (ofL ((1,x1) :: (2,.int .i64 a) :: (3,x3) :: (8,.mp L 0) :: (11,.mp J 0) :: (12,x12) :: E)) K=some (.normal,ofL [(8,.mp L 0),(9,.int .i64 (begE t F ra.elem))],(K ++ Y).set L (.cells (movV t F (if i=11 then 1 else 2) a 7 a ra.elem))):=by
 have lJ:=(List.getElem?_eq_some_iff.1 hJ).1
 have lL:=(List.getElem?_eq_some_iff.1 hL).1
 obtain ⟨w0,a0⟩:=acall_of (whole49_ok K)
 obtain ⟨Y,h1⟩:=moved_ok hx K ht ha (if i=11 then 1 else 2) a 7
 obtain ⟨w1,a1⟩:=acall_of h1
 refine ⟨Y,?_⟩
 have hmv:∃ o p q r s,movV t F (if i=11 then 1 else 2) a 7 a ra.elem=opC o p q r s:=by
  unfold movV;split<;>exact ⟨_,_,_,_,_,rfl⟩
 obtain ⟨o,p,q,r,s,ho⟩:=hmv
 rw [ho] at a1 ⊢
 generalize begE t F ra.elem=be at *
 have fJ0:∀ hh,K[J]'hh=_:=fun hh=>(List.getElem?_eq_some_iff.1 hJ).2
 have fL:∀ x hh,(K ++ x)[L]'hh=_:=fun x hh=>(List.getElem?_eq_some_iff.1 (rapp hL x)).2
 have gL:=fun x=>rapp hL x
 have m2:∀ x:Nat,L<K.length+x:=fun x=>by omega
 refine Brun_told ?_
 unfold opC at *
 clear ht hx ha h1 ho
 rcases hi with rfl|rfl
 ·simp only [if_true] at a1 ⊢
  simp [*,f17r11,f17q11,asteps,astep,stepRun,aop,HC.run,HC.rds,HC.wrs,HC.ofOpt,Blk.isFree,wanted,put,cellsOf,isSc,splice,cget,slen,ssz,scells,roomy,rowsz,Cap.tight,drawOK,freeOf,Rec.indep,disj,apart,AOper.looks,AOp.tmps,AO.tmps,pTmps,oTmps,Nat.testBit,ofL,isPure,tab,f48,f49,fillp,imm,imm.immL,abin,List.replicate]
 ·simp only [show ((13:Nat)=11)=False by decide,if_false] at a1 ⊢
  simp [*,f17r13,f17q13,asteps,astep,stepRun,aop,HC.run,HC.rds,HC.wrs,HC.ofOpt,Blk.isFree,wanted,put,cellsOf,isSc,splice,cget,slen,ssz,scells,roomy,rowsz,Cap.tight,drawOK,freeOf,Rec.indep,disj,apart,AOper.looks,AOp.tmps,AO.tmps,pTmps,oTmps,Nat.testBit,ofL,isPure,tab,f48,f49,fillp,imm,imm.immL,abin,List.replicate]
theorem r17_15 (hx:Tbl t rho F) (K:Heap) (ht:TabAt K T R M t.length false t) {b:Int} {rb:TR} (hb:getT t b=some rb) {J L:Nat} (hJ:K[J]?=some (.cells [.mp T 0])) (hL:K[L]?=some (.cells (opC 0 0 0 0 0))) (E:List (Nat × AV)) :
  ∃ Y,Brun tab 125 (.region true f17r15 [8,9] 0) (ofL ((3,.int .i64 b) :: (8,.mp L 0) :: (11,.mp J 0) :: E)) K=some (.normal,ofL [(8,.mp L 0),(9,.int .i64 (begE t F rb.elem))],(K ++ Y).set L (.cells (movV t F 1 7 b b rb.elem))):=by
 have lJ:=(List.getElem?_eq_some_iff.1 hJ).1
 have lL:=(List.getElem?_eq_some_iff.1 hL).1
 obtain ⟨w0,a0⟩:=acall_of (whole49_ok K)
 obtain ⟨Y,h1⟩:=moved_ok hx K ht hb 1 7 b
 obtain ⟨w1,a1⟩:=acall_of h1
 refine ⟨Y,?_⟩
 have hmv:∃ o p q r s,movV t F 1 7 b b rb.elem=opC o p q r s:=by
  unfold movV;split<;>exact ⟨_,_,_,_,_,rfl⟩
 obtain ⟨o,p,q,r,s,ho⟩:=hmv
 rw [ho] at a1 ⊢
 generalize begE t F rb.elem=be at *
 have fJ0:∀ hh,K[J]'hh=_:=fun hh=>(List.getElem?_eq_some_iff.1 hJ).2
 have fL:∀ x hh,(K ++ x)[L]'hh=_:=fun x hh=>(List.getElem?_eq_some_iff.1 (rapp hL x)).2
 have gL:=fun x=>rapp hL x
 have m2:∀ x:Nat,L<K.length+x:=fun x=>by omega
 refine Brun_told ?_
 unfold opC at *
 clear ht hx hb h1 ho
 simp [*,f17r15,f17q15,asteps,astep,stepRun,aop,HC.run,HC.rds,HC.wrs,HC.ofOpt,Blk.isFree,wanted,put,cellsOf,isSc,splice,cget,slen,ssz,scells,roomy,rowsz,Cap.tight,drawOK,freeOf,Rec.indep,disj,apart,AOper.looks,AOp.tmps,AO.tmps,pTmps,oTmps,Nat.testBit,ofL,isPure,tab,f48,f49,fillp,imm,imm.immL,abin,List.replicate]
end
end Go.Proofs.YtfhijkapcdmdnaaGreatDoor
