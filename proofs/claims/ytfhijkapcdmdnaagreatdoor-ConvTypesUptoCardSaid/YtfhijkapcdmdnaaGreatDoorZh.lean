/- Conversions: the statement. -/
import Derived.Test.YtfhijkapcdmdnaaGreatDoorZg
import Derived.Test.YtfhijkapcdmdnaaGreatDoorHd
import Derived.Test.YtfhijkapcdmdnaaGreatDoorAmW
namespace Go.Proofs.YtfhijkapcdmdnaaGreatDoor
open Go.AM
set_option maxRecDepth 20000
set_option maxHeartbeats 4000000
set_option linter.unusedSimpArgs false
set_option linter.unusedVariables false
set_option maxHeartbeats 4000000
theorem begE_erase (t:List TR) (F:Nat) (id:Int):begE (t.map eraseT) F id=begE t F id:=by
 unfold begE
 rw [has_erase,whole_erase,bigF_erase]
theorem movV_erase (t:List TR) (F:Nat) (o l r p e:Int):movV (t.map eraseT) F o l r p e=movV t F o l r p e:=by
 unfold movV sizE
 rw [begE_erase,layF_erase]
theorem binS_erase (t:List TR) (F:Nat) (op:List UInt8) (a b:Int) (ra rb:TR):binS (t.map eraseT) F op a b (eraseT ra) (eraseT rb)=binS t F op a b ra rb:=by
 unfold binS ptrS
 simp only [movV_erase,begE_erase]
 rfl
theorem binA_erase (t:List TR) (F:Nat) (op:List UInt8) (a b:Int):binA (t.map eraseT) F op a b=binA t F op a b:=by
 unfold binA
 rw [getT_erase,getT_erase]
 cases getT t a with
 | none=>rfl
 | some ra =>
  cases getT t b with
  | none=>rfl
  | some rb=>exact binS_erase t F op a b ra rb
theorem unA_erase (t:List TR) (op:List UInt8) (a:Int):unA (t.map eraseT) op a=unA t op a:=by
 unfold unA
 rw [getT_erase]
 cases getT t a<;>rfl
theorem condA_erase (t:List TR) (a b:Int):condA (t.map eraseT) a b=condA t a b:=by
 unfold condA
 rw [getT_erase,getT_erase]
 cases getT t a with
 | none=>rfl
 | some ra=>cases getT t b<;>rfl
theorem assignA_erase (t:List TR) (a b:Int):assignA (t.map eraseT) a b=assignA t a b:=by
 unfold assignA
 rw [getT_erase,getT_erase]
 cases getT t a with
 | none=>rfl
 | some ra=>cases getT t b<;>rfl
theorem castA_erase (t:List TR) (a b:Int):castA (t.map eraseT) a b=castA t a b:=by
 unfold castA
 rw [getT_erase,getT_erase]
 cases getT t a with
 | none=>rfl
 | some ra=>cases getT t b<;>rfl
theorem binA_op (t:List TR) (F:Nat) (op:List UInt8) (a b:Int):IsOp (binA t F op a b):=by
 have hm:∀ o l r p e be,IsOp (movV t F o l r p e,be):=fun o l r p e be=>by
  unfold movV IsOp
  dsimp only
  split<;>exact ⟨_,_,_,_,_,rfl⟩
 unfold binA
 split
 ·unfold binS
  refine isOp_ite (opC_of ..) (isOp_ite ?_ ?_)
  ·unfold ptrS
   refine isOp_ite (isOp_ite (hm ..) ⟨_,_,_,_,_,rfl⟩) ?_
   repeat (refine isOp_ite (isOp_ite ⟨_,_,_,_,_,rfl⟩ ⟨_,_,_,_,_,rfl⟩) ?_)
   exact ⟨_,_,_,_,_,rfl⟩
  ·exact isOp_ite (hm ..) (isOp_ite (hm ..) (isOp_ite (hm ..) ⟨_,_,_,_,_,rfl⟩))
 ·exact ⟨_,_,_,_,_,rfl⟩
theorem types_law (rows:List TR) (c0:Cap) (op:List UInt8) (a b:Int) (hcap:∀ w ∈ rows,w.cap = .no) (hsz:∀ w ∈ rows,w.tag.length≤1048576∧w.mem.length≤16777216∧∀ m ∈ w.mem,m.1.length≤1048576) (hlen:rows.length≤16777216) (H:Heap) :
  ∃ G',Ccall tab 4 [.is (rows.map trow) c0,.str op,.int .i64 a,.int .i64 b] H=some (.bool true,G'):=by
 obtain ⟨G,k1,hB⟩:=both_ok [] rows .no hcap hsz hlen
 have hh:=heads_ok
 refine ⟨H,Ccall_own rfl rfl rfl rfl ?_⟩
 rcases hB with ⟨T,R,M,C,cap,es,ck,hat,hb⟩|hb
 ·obtain ⟨rho,F,hx,he,hl⟩:=tbl_of hcap (fun w hw=>(hsz w hw).2.1) hat.acc
  have ht:=hat.tab
  have hC:=hat.ref
  rw [← hl] at ht
  have hxr:Tbl rows rho F:=by
   have:=tbl_erase hx (by rw [he];exact acc_imp hat.acc)
   rw [he] at this
   exact this
  obtain ⟨t,hdt⟩:∃ t,t=tabOf rows:=⟨_,rfl⟩
  rw [← hdt] at hx he hl ht
  have hC':∀ x,(G ++ x)[C]?=some (.cells [.is (rows.map trow) cap]):=fun x=>rapp hC x
  have hne:C≠T∧C≠R:=by
   refine ⟨fun e=>?_,fun e=>?_⟩
   ·have h1:=ht.t0
    rw [← e,hC] at h1
    simp at h1
   ·have h1:=ht.r0
    rw [← e,hC] at h1
    simp only [Option.some.injEq,Blk.cells.injEq] at h1
    have h2:=congrArg List.length h1
    rw [cells_len] at h2
    have:=hx.acc.lo
    simp at h2
    omega
  obtain ⟨v,hv⟩:∃ v,v=binA t F op a b:=⟨_,rfl⟩
  obtain ⟨Y1,b1⟩:=bin_ok hx (G ++ [.free]) (ht.app _) op a b
  rw [← hv] at b1
  obtain ⟨o,p,q,r,s,ho⟩:IsOp v:=by rw [hv];exact binA_op ..
  rw [ho] at b1
  obtain ⟨B,hB⟩:∃ B:Blk,B = .cells (opC o p q r s):=⟨_,rfl⟩
  obtain ⟨Y2,b2⟩:=rbin_ok hxr (G ++ (B :: (Y1 ++ [.free]))) (hC' _) op a b
  have e2:binA rows F op a b=v:=by rw [hv,← he,binA_erase]
  rw [e2,ho] at b2
  obtain ⟨Y3,b3⟩:=un_ok hx (G ++ (B :: (Y1 ++ (B :: Y2)))) (ht.app _) op a
  have b4:=run_ok (G ++ (B :: (Y1 ++ (B :: (Y2 ++ Y3))))) (hC' _) op a
  have e4:unA rows op a=unA t op a:=by rw [← he,unA_erase]
  rw [e4] at b4
  obtain ⟨Y5,b5⟩:=cond_ok hx (G ++ (B :: (Y1 ++ (B :: (Y2 ++ Y3))))) (ht.app _) a b
  have b6:=rcond_ok (G ++ (B :: (Y1 ++ (B :: (Y2 ++ (Y3 ++ Y5)))))) (hC' _) a b
  have e6:condA rows a b=condA t a b:=by rw [← he,condA_erase]
  rw [e6] at b6
  obtain ⟨Y7,b7⟩:=assignA_ok hx (G ++ (B :: (Y1 ++ (B :: (Y2 ++ (Y3 ++ Y5)))))) (ht.app _) a b
  have b8:=rassign_ok hxr.acc (G ++ (B :: (Y1 ++ (B :: (Y2 ++ (Y3 ++ (Y5 ++ Y7))))))) (hC' _) a b
  have e8:assignA rows a b=assignA t a b:=by rw [← he,assignA_erase]
  rw [e8] at b8
  obtain ⟨Y9,b9⟩:=castA_ok hx (G ++ (B :: (Y1 ++ (B :: (Y2 ++ (Y3 ++ (Y5 ++ Y7))))))) (ht.app _) a b
  have b10:=rcast_ok (G ++ (B :: (Y1 ++ (B :: (Y2 ++ (Y3 ++ (Y5 ++ (Y7 ++ Y9)))))))) (hC' _) a b
  have e10:castA rows a b=castA t a b:=by rw [← he,castA_erase]
  rw [e10] at b10
  obtain ⟨Y11,b11⟩:=like_ok hx.sz hx.acc.hi (G ++ (B :: (Y1 ++ (B :: (Y2 ++ (Y3 ++ (Y5 ++ (Y7 ++ Y9)))))))) (ht.app _) (C:=C) (c:=cap) (by rw [he];exact hC' _) hne
  have gB:∀ x,(G ++ (B :: x))[G.length]?=some B:=fun x=>by rw [List.getElem?_append_right (Nat.le_refl _),Nat.sub_self];rfl
  have gB2:∀ x,(G ++ (B :: (Y1 ++ (B :: x))))[G.length+(Y1.length+1)]?=some B:=fun x=>by
   rw [List.getElem?_append_right (by omega),Nat.add_sub_cancel_left,List.getElem?_cons_succ,List.getElem?_append_right (Nat.le_refl _),Nat.sub_self];rfl
  subst hB
  unfold opC at *
  generalize v.2=er at *
  generalize (unA t op a).1=u1 at *
  generalize (unA t op a).2=u2 at *
  generalize (condA t a b).1=d1 at *
  generalize (condA t a b).2=d2 at *
  generalize assignA t a b=asg at *
  generalize castA t a b=cs at *
  generalize rows.map trow=X at *
  simp only [List.append_assoc,List.cons_append,List.nil_append] at *
  clear hcap hsz hlen k1 hat hx hxr he hl ht hC hC' hne hdt hv ho e2 e4 e6 e8 e10
  repeat (any_goals first|simp -dsimp (maxSteps:=4000000) (maxDischargeDepth:=8) -implicitDefEqProofs [*,-Int.not_le,-Int.not_lt,amLt,ap4]|with_reducible (first|apply cB|apply iB)<;>intro _|intro _)
 ·generalize rows.map trow=X at *
  clear hcap hsz hlen k1
  repeat (any_goals first|simp -dsimp (maxSteps:=4000000) (maxDischargeDepth:=8) -implicitDefEqProofs [*,-Int.not_le,-Int.not_lt,amLt]|with_reducible (first|apply cB|apply iB)<;>intro _|intro _)
theorem arg_str {B:Nat} {x:AV} (h:Sh.str.Arg B x):∃ s:List UInt8,x = .str s∧s.length≤B:=by
 simp only [Sh.Arg,Sh.Row] at h
 obtain ⟨s,hs,hx⟩:=h
 simp only [List.cons.injEq,and_true] at hx
 exact ⟨s,hx,hs⟩
theorem types_args:∀ xs,ArgsL 1048576 f4s xs→∃ h',Ccall tab 4 xs []=some (.bool true,h'):=by
 intro xs hxs
 obtain ⟨x,_,rfl,h1,w,_,rfl,h0,y,_,rfl,h2,z,_,rfl,h3,rfl⟩:=hxs
 obtain ⟨rows,rfl,hl,hw⟩:=arg_rows h1
 obtain ⟨op,rfl,_⟩:=arg_str h0
 obtain ⟨a,rfl,_⟩:=arg_int h2
 obtain ⟨b,rfl,_⟩:=arg_int h3
 obtain ⟨g1,g2⟩:=trok_sz hw
 exact types_law rows .no op a b g1 g2 (by omega) []
end Go.Proofs.YtfhijkapcdmdnaaGreatDoor
