/- The reference: rows; both tables. -/
import Derived.Test.YtfhijkapcdmdnaaGreatDoorZb
import Derived.Test.YtfhijkapcdmdnaaGreatDoorAmW
namespace Go.Proofs.YtfhijkapcdmdnaaGreatDoor
open Go.AM
set_option maxRecDepth 20000
set_option maxHeartbeats 4000000
set_option linter.unusedSimpArgs false
set_option linter.unusedVariables false
set_option maxHeartbeats 4000000
theorem req_loop0 (k:Int) (h:Heap):Brun tab 66 (.loop f103l4) (ofL [(2,.ip [.int .i64 k,.int .i64 0,.int .i64 0,.str [],.is [] .no,.bool false] 0),(3,.ip [.int .i64 k,.int .i64 0,.int .i64 0,.str [],.is [] .no,.bool false] 0),(5,.int .i64 0)]) h =
  some (.exit 0,ofL [(2,.ip [.int .i64 k,.int .i64 0,.int .i64 0,.str [],.is [] .no,.bool false] 0),(3,.ip [.int .i64 k,.int .i64 0,.int .i64 0,.str [],.is [] .no,.bool false] 0),(5,.int .i64 0),(52,.bool false)],h):=by
 rw [Brun_loop]
 repeat (any_goals first|simp -dsimp (maxSteps:=4000000) (maxDischargeDepth:=8) -implicitDefEqProofs [*,-Int.not_le,-Int.not_lt,amLt]|with_reducible (first|apply cB|apply iB)<;>intro _|intro _)
theorem requal_basic (h:Heap) (r:TR) (k:Int):Ccall tab 103 [.agg (trow r),.agg [.int .i64 k,.int .i64 0,.int .i64 0,.str [],.is [] .nil,.bool false]] h=some (.bool (decide (r.kind=k∧r.elem=0∧r.len=0∧r.tag=[]∧r.mem=[]∧r.done=false)),h):=by
 have hml:=memRows_len r.mem
 refine Ccall_own rfl rfl rfl rfl ?_
 unfold trow
 obtain ⟨kind,elem,len,tag,mem,done,cp⟩:=r
 dsimp only at *
 by_cases e0:kind=k
 ·subst e0
  by_cases e1:elem=0
  ·by_cases e2:len=0
   ·by_cases e3:tag=[]
    ·cases done with
     | false =>
      by_cases e4:mem=[]
      ·subst e4
       clear hml
       have lp:=req_loop0 kind []
       repeat (any_goals first|simp -dsimp (maxSteps:=4000000) (maxDischargeDepth:=8) -implicitDefEqProofs [*,-Int.not_le,-Int.not_lt,amLt,aeq_bools,memRows]|with_reducible (first|apply cB|apply iB)<;>intro _|intro _)
      ·have e4':0<mem.length:=List.length_pos_iff.2 e4
       have e5:¬ (mem.length:Int)=0:=by omega
       repeat (any_goals first|simp -dsimp (maxSteps:=4000000) (maxDischargeDepth:=8) -implicitDefEqProofs [*,-Int.not_le,-Int.not_lt,amLt,aeq_bools]|with_reducible (first|apply cB|apply iB)<;>intro _|intro _)
     | true =>
      repeat (any_goals first|simp -dsimp (maxSteps:=4000000) (maxDischargeDepth:=8) -implicitDefEqProofs [*,-Int.not_le,-Int.not_lt,amLt,aeq_bools]|with_reducible (first|apply cB|apply iB)<;>intro _|intro _)
    ·repeat (any_goals first|simp -dsimp (maxSteps:=4000000) (maxDischargeDepth:=8) -implicitDefEqProofs [*,-Int.not_le,-Int.not_lt,amLt,aeq_bools]|with_reducible (first|apply cB|apply iB)<;>intro _|intro _)
   ·repeat (any_goals first|simp -dsimp (maxSteps:=4000000) (maxDischargeDepth:=8) -implicitDefEqProofs [*,-Int.not_le,-Int.not_lt,amLt,aeq_bools]|with_reducible (first|apply cB|apply iB)<;>intro _|intro _)
  ·repeat (any_goals first|simp -dsimp (maxSteps:=4000000) (maxDischargeDepth:=8) -implicitDefEqProofs [*,-Int.not_le,-Int.not_lt,amLt,aeq_bools]|with_reducible (first|apply cB|apply iB)<;>intro _|intro _)
 ·repeat (any_goals first|simp -dsimp (maxSteps:=4000000) (maxDischargeDepth:=8) -implicitDefEqProofs [*,-Int.not_le,-Int.not_lt,amLt,aeq_bools]|with_reducible (first|apply cB|apply iB)<;>intro _|intro _)
section
variable {H:Heap} {T:Nat} {rows:List TR} {c:Cap}
theorem rshaped_ok (hT:H[T]?=some (.cells [.is (rows.map trow) c])) {i:Nat} {r:TR} (hi:rows[i]?=some r) (hi2:i≤512) (htag:r.tag.length≤1048576) (hml0:r.mem.length≤16777216) (hn:∀ m ∈ r.mem,m.1.length≤1048576) :
  ∃ Y,Ccall tab 81 [.mp T 0,.int .i64 i] H=some (.bool (rshapedS rows i r),H ++ Y):=by
 have hr:(rows.map trow)[i]?=some (trow r):=by rw [List.getElem?_map,hi];rfl
 have hlt:i<(rows.map trow).length:=(List.getElem?_eq_some_iff.1 hr).1
 have hr2:∀ hh:i<(rows.map trow).length,(rows.map trow)[i]=trow r:=fun hh=>(List.getElem?_eq_some_iff.1 hr).2
 have h1:(i:Int)<(rows.map trow).length:=by omega
 have hT2:=rapp hT [.cells (trow r)]
 have hT3:=fun x=>rapp hT x
 have htg:=fun h=>rtag_ok h r.tag (by omega)
 have hlg:=fun h=>rlong_ok h r.len
 have hwh:=rwhole_ok hT2 r.elem
 obtain ⟨Y,hM⟩:=rmembers_ok hT2 r.mem r.cap hml0 hn
 have heq:=fun h=>requal_basic h r (i+1)
 have hw:=cw64 i (by omega)
 have hml:=memRows_len r.mem
 rw [List.append_assoc] at hM
 unfold rshapedS
 generalize membersE (rwholeS rows) (kindS rows) (hasS rows) r.mem=me at *
 generalize rwholeS rows r.elem=wh at *
 generalize rows.map trow=X at *
 unfold trow at *
 obtain ⟨kind,elem,len,tag,mem,done,cp⟩:=r
 dsimp only at *
 clear hT hi htag hml0 hn
 by_cases i11:i<11
 ·have i11':(i:Int)<11:=by omega
  rw [if_pos i11]
  refine ⟨[.cells [.int .i64 kind,.int .i64 elem,.int .i64 len,.str tag,.is (memRows mem) cp,.bool done]],?_⟩
  refine Ccall_over rfl rfl rfl rfl ?_
  unfold basicR
  clear hM htg hlg hwh
  dsimp only
  generalize decide (kind=i+1∧elem=0∧len=0∧tag=[]∧mem=[]∧done=false)=z at *
  repeat (any_goals first|simp -dsimp (maxSteps:=4000000) (maxDischargeDepth:=8) -implicitDefEqProofs [*,-Int.not_le,-Int.not_lt,amLt,ap4]|with_reducible (first|apply cB|apply iB)<;>intro _|intro _)
 ·have i11':¬ (i:Int)<11:=by omega
  rw [if_neg i11]
  clear heq hw i11
  by_cases k12:kind=12
  ·subst k12
   rw [if_pos rfl]
   clear hM hlg hwh
   refine ⟨[.cells [.int .i64 12,.int .i64 elem,.int .i64 len,.str tag,.is (memRows mem) cp,.bool done]],?_⟩
   refine Ccall_over rfl rfl rfl rfl ?_
   unfold plainR
   dsimp only
   generalize tagS tag=tg at *
   by_cases e1:elem=0
   ·by_cases e2:len=0
    ·by_cases e4:mem=[]
     ·subst e4
      cases tg<;>cases done
      ·repeat (any_goals first|simp -dsimp (maxSteps:=4000000) (maxDischargeDepth:=8) -implicitDefEqProofs [*,-Int.not_le,-Int.not_lt,amLt,ap4,memRows]|with_reducible (first|apply cB|apply iB)<;>intro _|intro _)
      ·repeat (any_goals first|simp -dsimp (maxSteps:=4000000) (maxDischargeDepth:=8) -implicitDefEqProofs [*,-Int.not_le,-Int.not_lt,amLt,ap4,memRows]|with_reducible (first|apply cB|apply iB)<;>intro _|intro _)
      ·repeat (any_goals first|simp -dsimp (maxSteps:=4000000) (maxDischargeDepth:=8) -implicitDefEqProofs [*,-Int.not_le,-Int.not_lt,amLt,ap4,memRows]|with_reducible (first|apply cB|apply iB)<;>intro _|intro _)
      ·repeat (any_goals first|simp -dsimp (maxSteps:=4000000) (maxDischargeDepth:=8) -implicitDefEqProofs [*,-Int.not_le,-Int.not_lt,amLt,ap4,memRows]|with_reducible (first|apply cB|apply iB)<;>intro _|intro _)
     ·have e4':0<mem.length:=List.length_pos_iff.2 e4
      have e5:¬ (mem.length:Int)=0:=by omega
      cases tg
      ·repeat (any_goals first|simp -dsimp (maxSteps:=4000000) (maxDischargeDepth:=8) -implicitDefEqProofs [*,-Int.not_le,-Int.not_lt,amLt,ap4]|with_reducible (first|apply cB|apply iB)<;>intro _|intro _)
      ·repeat (any_goals first|simp -dsimp (maxSteps:=4000000) (maxDischargeDepth:=8) -implicitDefEqProofs [*,-Int.not_le,-Int.not_lt,amLt,ap4]|with_reducible (first|apply cB|apply iB)<;>intro _|intro _)
    ·repeat (any_goals first|simp -dsimp (maxSteps:=4000000) (maxDischargeDepth:=8) -implicitDefEqProofs [*,-Int.not_le,-Int.not_lt,amLt,ap4]|with_reducible (first|apply cB|apply iB)<;>intro _|intro _)
   ·repeat (any_goals first|simp -dsimp (maxSteps:=4000000) (maxDischargeDepth:=8) -implicitDefEqProofs [*,-Int.not_le,-Int.not_lt,amLt,ap4]|with_reducible (first|apply cB|apply iB)<;>intro _|intro _)
  ·rw [if_neg k12]
   by_cases k15:kind=15∨kind=16
   ·rw [if_pos k15]
    clear hlg hwh k12
    unfold plainR
    dsimp only
    generalize tagS tag=tg at *
    by_cases e1:elem=0
    ·by_cases e2:len=0
     ·cases tg with
      | false =>
       refine ⟨[.cells [.int .i64 kind,.int .i64 elem,.int .i64 len,.str tag,.is (memRows mem) cp,.bool done]],?_⟩
       refine Ccall_over rfl rfl rfl rfl ?_
       clear hM
       rcases k15 with rfl|rfl
       ·repeat (any_goals first|simp -dsimp (maxSteps:=4000000) (maxDischargeDepth:=8) -implicitDefEqProofs [*,-Int.not_le,-Int.not_lt,amLt,ap4]|with_reducible (first|apply cB|apply iB)<;>intro _|intro _)
       ·repeat (any_goals first|simp -dsimp (maxSteps:=4000000) (maxDischargeDepth:=8) -implicitDefEqProofs [*,-Int.not_le,-Int.not_lt,amLt,ap4]|with_reducible (first|apply cB|apply iB)<;>intro _|intro _)
      | true =>
       cases done with
       | false =>
        refine ⟨[.cells [.int .i64 kind,.int .i64 elem,.int .i64 len,.str tag,.is (memRows mem) cp,.bool false]],?_⟩
        refine Ccall_over rfl rfl rfl rfl ?_
        clear hM
        by_cases e4:mem=[]
        ·subst e4
         rcases k15 with rfl|rfl
         ·repeat (any_goals first|simp -dsimp (maxSteps:=4000000) (maxDischargeDepth:=8) -implicitDefEqProofs [*,-Int.not_le,-Int.not_lt,amLt,ap4,memRows]|with_reducible (first|apply cB|apply iB)<;>intro _|intro _)
         ·repeat (any_goals first|simp -dsimp (maxSteps:=4000000) (maxDischargeDepth:=8) -implicitDefEqProofs [*,-Int.not_le,-Int.not_lt,amLt,ap4,memRows]|with_reducible (first|apply cB|apply iB)<;>intro _|intro _)
        ·have e4':0<mem.length:=List.length_pos_iff.2 e4
         have e5:¬ (mem.length:Int)=0:=by omega
         rcases k15 with rfl|rfl
         ·repeat (any_goals first|simp -dsimp (maxSteps:=4000000) (maxDischargeDepth:=8) -implicitDefEqProofs [*,-Int.not_le,-Int.not_lt,amLt,ap4]|with_reducible (first|apply cB|apply iB)<;>intro _|intro _)
         ·repeat (any_goals first|simp -dsimp (maxSteps:=4000000) (maxDischargeDepth:=8) -implicitDefEqProofs [*,-Int.not_le,-Int.not_lt,amLt,ap4]|with_reducible (first|apply cB|apply iB)<;>intro _|intro _)
       | true =>
        refine ⟨[.cells [.int .i64 kind,.int .i64 elem,.int .i64 len,.str tag,.is (memRows mem) cp,.bool true]] ++ Y,?_⟩
        refine Ccall_over rfl rfl rfl rfl ?_
        subst e1 e2
        by_cases e4:mem=[]
        ·subst e4
         simp only [memRows,List.map_nil] at hM
         rcases k15 with rfl|rfl
         ·repeat (any_goals first|simp -dsimp (maxSteps:=4000000) (maxDischargeDepth:=8) -implicitDefEqProofs [*,-Int.not_le,-Int.not_lt,amLt,ap4,memRows]|with_reducible (first|apply cB|apply iB)<;>intro _|intro _)
         ·repeat (any_goals first|simp -dsimp (maxSteps:=4000000) (maxDischargeDepth:=8) -implicitDefEqProofs [*,-Int.not_le,-Int.not_lt,amLt,ap4,memRows]|with_reducible (first|apply cB|apply iB)<;>intro _|intro _)
        ·have e4':0<mem.length:=List.length_pos_iff.2 e4
         have e5:¬ (mem.length:Int)=0:=by omega
         rcases k15 with rfl|rfl
         ·repeat (any_goals first|simp -dsimp (maxSteps:=4000000) (maxDischargeDepth:=8) -implicitDefEqProofs [*,-Int.not_le,-Int.not_lt,amLt,ap4]|with_reducible (first|apply cB|apply iB)<;>intro _|intro _)
         ·repeat (any_goals first|simp -dsimp (maxSteps:=4000000) (maxDischargeDepth:=8) -implicitDefEqProofs [*,-Int.not_le,-Int.not_lt,amLt,ap4]|with_reducible (first|apply cB|apply iB)<;>intro _|intro _)
     ·refine ⟨[.cells [.int .i64 kind,.int .i64 elem,.int .i64 len,.str tag,.is (memRows mem) cp,.bool done]],?_⟩
      refine Ccall_over rfl rfl rfl rfl ?_
      clear hM
      rcases k15 with rfl|rfl
      ·repeat (any_goals first|simp -dsimp (maxSteps:=4000000) (maxDischargeDepth:=8) -implicitDefEqProofs [*,-Int.not_le,-Int.not_lt,amLt,ap4]|with_reducible (first|apply cB|apply iB)<;>intro _|intro _)
      ·repeat (any_goals first|simp -dsimp (maxSteps:=4000000) (maxDischargeDepth:=8) -implicitDefEqProofs [*,-Int.not_le,-Int.not_lt,amLt,ap4]|with_reducible (first|apply cB|apply iB)<;>intro _|intro _)
    ·refine ⟨[.cells [.int .i64 kind,.int .i64 elem,.int .i64 len,.str tag,.is (memRows mem) cp,.bool done]],?_⟩
     refine Ccall_over rfl rfl rfl rfl ?_
     clear hM
     rcases k15 with rfl|rfl
     ·repeat (any_goals first|simp -dsimp (maxSteps:=4000000) (maxDischargeDepth:=8) -implicitDefEqProofs [*,-Int.not_le,-Int.not_lt,amLt,ap4]|with_reducible (first|apply cB|apply iB)<;>intro _|intro _)
     ·repeat (any_goals first|simp -dsimp (maxSteps:=4000000) (maxDischargeDepth:=8) -implicitDefEqProofs [*,-Int.not_le,-Int.not_lt,amLt,ap4]|with_reducible (first|apply cB|apply iB)<;>intro _|intro _)
   ·rw [if_neg k15]
    have n15:¬ kind=15:=fun e=>k15 (.inl e)
    have n16:¬ kind=16:=fun e=>k15 (.inr e)
    clear k15 hM htg
    refine ⟨[.cells [.int .i64 kind,.int .i64 elem,.int .i64 len,.str tag,.is (memRows mem) cp,.bool done]],?_⟩
    refine Ccall_over rfl rfl rfl rfl ?_
    unfold plainR
    dsimp only
    by_cases k13:kind=13
    ·subst k13
     rw [if_pos rfl]
     clear hlg hwh k12 n15 n16
     by_cases e5:0≤elem
     ·by_cases e6:elem<i
      ·by_cases e2:len=0
       ·by_cases e3:tag=[]
        ·by_cases e4:mem=[]
         ·subst e4
          repeat (any_goals first|simp -dsimp (maxSteps:=4000000) (maxDischargeDepth:=8) -implicitDefEqProofs [*,-Int.not_le,-Int.not_lt,amLt,ap4,memRows]|with_reducible (first|apply cB|apply iB)<;>intro _|intro _)
         ·have e4':0<mem.length:=List.length_pos_iff.2 e4
          have e5:¬ (mem.length:Int)=0:=by omega
          repeat (any_goals first|simp -dsimp (maxSteps:=4000000) (maxDischargeDepth:=8) -implicitDefEqProofs [*,-Int.not_le,-Int.not_lt,amLt,ap4]|with_reducible (first|apply cB|apply iB)<;>intro _|intro _)
        ·by_cases e4:mem=[]
         ·subst e4
          repeat (any_goals first|simp -dsimp (maxSteps:=4000000) (maxDischargeDepth:=8) -implicitDefEqProofs [*,-Int.not_le,-Int.not_lt,amLt,ap4,memRows]|with_reducible (first|apply cB|apply iB)<;>intro _|intro _)
         ·have e4':0<mem.length:=List.length_pos_iff.2 e4
          have e5:¬ (mem.length:Int)=0:=by omega
          repeat (any_goals first|simp -dsimp (maxSteps:=4000000) (maxDischargeDepth:=8) -implicitDefEqProofs [*,-Int.not_le,-Int.not_lt,amLt,ap4]|with_reducible (first|apply cB|apply iB)<;>intro _|intro _)
       ·repeat (any_goals first|simp -dsimp (maxSteps:=4000000) (maxDischargeDepth:=8) -implicitDefEqProofs [*,-Int.not_le,-Int.not_lt,amLt,ap4]|with_reducible (first|apply cB|apply iB)<;>intro _|intro _)
      ·repeat (any_goals first|simp -dsimp (maxSteps:=4000000) (maxDischargeDepth:=8) -implicitDefEqProofs [*,-Int.not_le,-Int.not_lt,amLt,ap4]|with_reducible (first|apply cB|apply iB)<;>intro _|intro _)
     ·repeat (any_goals first|simp -dsimp (maxSteps:=4000000) (maxDischargeDepth:=8) -implicitDefEqProofs [*,-Int.not_le,-Int.not_lt,amLt,ap4]|with_reducible (first|apply cB|apply iB)<;>intro _|intro _)
    ·rw [if_neg k13]
     by_cases k14:kind=14
     ·subst k14
      rw [if_pos rfl]
      clear k12 n15 n16 k13
      generalize longS len=lg at *
      by_cases e5:0≤elem
      ·by_cases e6:elem<i
       ·cases lg with
        | false =>
         repeat (any_goals first|simp -dsimp (maxSteps:=4000000) (maxDischargeDepth:=8) -implicitDefEqProofs [*,-Int.not_le,-Int.not_lt,amLt,ap4]|with_reducible (first|apply cB|apply iB)<;>intro _|intro _)
        | true =>
         by_cases e3:tag=[]
         ·by_cases e4:mem=[]
          ·subst e4 e3
           simp only [memRows,List.map_nil] at hwh
           cases done
           ·repeat (any_goals first|simp -dsimp (maxSteps:=4000000) (maxDischargeDepth:=8) -implicitDefEqProofs [*,-Int.not_le,-Int.not_lt,amLt,ap4,memRows]|with_reducible (first|apply cB|apply iB)<;>intro _|intro _)
           ·repeat (any_goals first|simp -dsimp (maxSteps:=4000000) (maxDischargeDepth:=8) -implicitDefEqProofs [*,-Int.not_le,-Int.not_lt,amLt,ap4,memRows]|with_reducible (first|apply cB|apply iB)<;>intro _|intro _)
          ·have e4':0<mem.length:=List.length_pos_iff.2 e4
           have e5:¬ (mem.length:Int)=0:=by omega
           repeat (any_goals first|simp -dsimp (maxSteps:=4000000) (maxDischargeDepth:=8) -implicitDefEqProofs [*,-Int.not_le,-Int.not_lt,amLt,ap4]|with_reducible (first|apply cB|apply iB)<;>intro _|intro _)
         ·repeat (any_goals first|simp -dsimp (maxSteps:=4000000) (maxDischargeDepth:=8) -implicitDefEqProofs [*,-Int.not_le,-Int.not_lt,amLt,ap4]|with_reducible (first|apply cB|apply iB)<;>intro _|intro _)
       ·repeat (any_goals first|simp -dsimp (maxSteps:=4000000) (maxDischargeDepth:=8) -implicitDefEqProofs [*,-Int.not_le,-Int.not_lt,amLt,ap4]|with_reducible (first|apply cB|apply iB)<;>intro _|intro _)
      ·repeat (any_goals first|simp -dsimp (maxSteps:=4000000) (maxDischargeDepth:=8) -implicitDefEqProofs [*,-Int.not_le,-Int.not_lt,amLt,ap4]|with_reducible (first|apply cB|apply iB)<;>intro _|intro _)
     ·rw [if_neg k14]
      clear hlg hwh
      repeat (any_goals first|simp -dsimp (maxSteps:=4000000) (maxDischargeDepth:=8) -implicitDefEqProofs [*,-Int.not_le,-Int.not_lt,amLt,ap4]|with_reducible (first|apply cB|apply iB)<;>intro _|intro _)
end
theorem key_eq (a b:TR):decide (keyR a=keyR b)=(decide (a.kind=b.kind) && (decide (a.elem=b.elem) && decide (a.len=b.len))):=by
 unfold keyR
 simp only [Prod.mk.injEq]
 by_cases h1:a.kind=b.kind<;>by_cases h2:a.elem=b.elem<;>by_cases h3:a.len=b.len<;>simp [h1,h2,h3]
section
variable {T:Nat} {rows:List TR} {c:Cap}
theorem twice_loop (r:TR) (i N:Nat) (hi:i≤rows.length) (hi2:i≤512) (G:Heap) (hT:G[T]?=some (.cells [.is (rows.map trow) c])) (hN:G[N]?=some (.cells (trow r))):∀ (n j:Nat),j+n=i →
  Brun tab 64 (.loop f82l5) (ofL [(0,.mp T 0),(1,.int .i64 i),(5,.mp N 0),(6,.int .i64 j)]) G =
   if (((rows.take i).drop j).any fun q=>decide (keyR q=keyR r))=true then some (.ret,ofL [(4,.bool true)],G) else some (.exit 0,ofL [(0,.mp T 0),(1,.int .i64 i),(5,.mp N 0),(6,.int .i64 i),(24,.bool false)],G):=by
 intro n
 induction n with
 | zero =>
  intro j hj
  have e:(rows.take i).drop j=[]:=List.drop_eq_nil_of_le (by rw [List.length_take];omega)
  have e2:(i:Int)=j:=by omega
  rw [e,Brun_loop,if_neg (by simp)]
  clear e hj hi hi2 hT hN
  repeat (any_goals first|simp -dsimp (maxSteps:=4000000) (maxDischargeDepth:=8) -implicitDefEqProofs [*,-Int.not_le,-Int.not_lt,amLt]|with_reducible (first|apply cB|apply iB)<;>intro _|intro _)
 | succ n ih =>
  intro j hj
  have hjl:j<rows.length:=by omega
  have e:(rows.take i).drop j=rows[j] :: (rows.take i).drop (j+1):=by
   rw [List.drop_eq_getElem_cons (by rw [List.length_take];omega),List.getElem_take]
  have ih2:=ih (j+1) (by omega)
  have hrow:(rows.map trow)[j]?=some (trow rows[j]):=by rw [List.getElem?_map,List.getElem?_eq_getElem hjl];rfl
  have hrow2:∀ hh:j<(rows.map trow).length,(rows.map trow)[j]=trow rows[j]:=fun hh=>(List.getElem?_eq_some_iff.1 hrow).2
  have h1:(j:Int)<(rows.map trow).length:=by rw [List.length_map];omega
  have h1':j<(rows.map trow).length:=by rw [List.length_map];omega
  have e3:¬ (i:Int)≤j:=by omega
  have e4:(j:Int)<i:=by omega
  have hw:=cw64 j (by omega)
  push_cast at ih2
  rw [e,Brun_loop,List.any_cons,key_eq]
  generalize (((rows.take i).drop (j+1)).any fun q=>decide (keyR q=keyR r))=q at *
  generalize rows[j]=w at *
  generalize rows.map trow=X at *
  obtain ⟨kind,elem,len,tag,mem,done,cp⟩:=r
  obtain ⟨kind2,elem2,len2,tag2,mem2,done2,cp2⟩:=w
  unfold trow at *
  dsimp only at *
  clear ih hi hi2 hj e hjl
  by_cases q1:kind2=kind
  ·subst q1
   by_cases q2:elem2=elem
   ·subst q2
    by_cases q3:len2=len
    ·subst q3
     clear ih2
     repeat (any_goals first|simp -dsimp (maxSteps:=4000000) (maxDischargeDepth:=8) -implicitDefEqProofs [*,-Int.not_le,-Int.not_lt,amLt]|with_reducible (first|apply cB|apply iB)<;>intro _|intro _)
    ·repeat (any_goals first|simp -dsimp (maxSteps:=4000000) (maxDischargeDepth:=8) -implicitDefEqProofs [*,-Int.not_le,-Int.not_lt,amLt]|with_reducible (first|apply cB|apply iB)<;>intro _|intro _)
   ·repeat (any_goals first|simp -dsimp (maxSteps:=4000000) (maxDischargeDepth:=8) -implicitDefEqProofs [*,-Int.not_le,-Int.not_lt,amLt]|with_reducible (first|apply cB|apply iB)<;>intro _|intro _)
  ·repeat (any_goals first|simp -dsimp (maxSteps:=4000000) (maxDischargeDepth:=8) -implicitDefEqProofs [*,-Int.not_le,-Int.not_lt,amLt]|with_reducible (first|apply cB|apply iB)<;>intro _|intro _)
theorem rtwice_ok {H:Heap} (hT:H[T]?=some (.cells [.is (rows.map trow) c])) {i:Nat} {r:TR} (hi:rows[i]?=some r) (hi2:i≤512) :
  Ccall tab 82 [.mp T 0,.int .i64 i] H=some (.bool (twiceS rows i r),H ++ [.cells (trow r)]):=by
 have hr:(rows.map trow)[i]?=some (trow r):=by rw [List.getElem?_map,hi];rfl
 have hlt:i<(rows.map trow).length:=(List.getElem?_eq_some_iff.1 hr).1
 have hr2:∀ hh:i<(rows.map trow).length,(rows.map trow)[i]=trow r:=fun hh=>(List.getElem?_eq_some_iff.1 hr).2
 have h1:(i:Int)<(rows.map trow).length:=by omega
 have hil:=(List.getElem?_eq_some_iff.1 hi).1
 have hT3:=fun x=>rapp hT x
 have lp:=twice_loop r i H.length (by omega) hi2 (H ++ [.cells (trow r)]) (hT3 _) (by simp) i 0 (by omega)
 rw [List.drop_zero] at lp
 simp only [Int.natCast_zero] at lp
 unfold twiceS
 generalize ((rows.take i).any fun q=>decide (keyR q=keyR r))=z at *
 generalize rows.map trow=X at *
 unfold isPA
 unfold trow at *
 obtain ⟨kind,elem,len,tag,mem,done,cp⟩:=r
 dsimp only at *
 refine Ccall_over rfl rfl rfl rfl ?_
 clear hT hi hil hi2
 by_cases k13:kind=13
 ·subst k13
  cases z
  ·repeat (any_goals first|simp -dsimp (maxSteps:=4000000) (maxDischargeDepth:=8) -implicitDefEqProofs [*,-Int.not_le,-Int.not_lt,amLt,ap4]|with_reducible (first|apply cB|apply iB)<;>intro _|intro _)
  ·repeat (any_goals first|simp -dsimp (maxSteps:=4000000) (maxDischargeDepth:=8) -implicitDefEqProofs [*,-Int.not_le,-Int.not_lt,amLt,ap4]|with_reducible (first|apply cB|apply iB)<;>intro _|intro _)
 ·by_cases k14:kind=14
  ·subst k14
   cases z
   ·repeat (any_goals first|simp -dsimp (maxSteps:=4000000) (maxDischargeDepth:=8) -implicitDefEqProofs [*,-Int.not_le,-Int.not_lt,amLt,ap4]|with_reducible (first|apply cB|apply iB)<;>intro _|intro _)
   ·repeat (any_goals first|simp -dsimp (maxSteps:=4000000) (maxDischargeDepth:=8) -implicitDefEqProofs [*,-Int.not_le,-Int.not_lt,amLt,ap4]|with_reducible (first|apply cB|apply iB)<;>intro _|intro _)
  ·clear lp
   repeat (any_goals first|simp -dsimp (maxSteps:=4000000) (maxDischargeDepth:=8) -implicitDefEqProofs [*,-Int.not_le,-Int.not_lt,amLt,ap4]|with_reducible (first|apply cB|apply iB)<;>intro _|intro _)
end
def bcells (l:List Bool):List AV:=l.map .bool
theorem bcells_len (l:List Bool):(bcells l).length=l.length:=List.length_map ..
theorem bcells_at {ok:List Bool} {d:Int} (h0:0≤d) (h1:d<ok.length):(bcells ok)[d.toNat]?=some (.bool (okD ok d)):=by
 have h2:d.toNat<ok.length:=by omega
 unfold bcells okD
 rw [List.getElem?_map,List.getElem?_eq_getElem h2,List.getD_eq_getElem?_getD,List.getElem?_eq_getElem h2]
 rfl
section
variable {T S N cs:Nat} {e2:Bool}
theorem gmem_loop (r:TR) (ok:List Bool) (x0 x4 x5:AV) (G:Heap) (hS:G[S]?=some (.cells (bcells ok))) (hN:G[N]?=some (.cells (trow r))) (hl:r.mem.length≤16777216) (hd:∀ m ∈ r.mem,0≤m.2.1∧m.2.1<ok.length):∀ (l:List Mem) (j:Nat) (b:Bool),r.mem.drop j=l→j≤r.mem.length →
  Brun tab 71 (.loop f83l12) (ofL [(0,x0),(3,.ms S 0 ok.length 1 cs e2),(4,x4),(5,x5),(6,.bool b),(7,.mp N 0),(8,.int .i64 j)]) G =
   some (.exit 4,ofL [(0,x0),(3,.ms S 0 ok.length 1 cs e2),(4,x4),(5,x5),(6,.bool (b && l.all fun m=>okD ok m.2.1)),(7,.mp N 0),(8,.int .i64 r.mem.length),(44,.bool false)],G):=by
 intro l
 induction l with
 | nil =>
  intro j b hr hj
  have hlen:=congrArg List.length hr
  simp only [List.length_drop,List.length_nil] at hlen
  have e3:(r.mem.length:Int)=j:=by omega
  have hml:=memRows_len r.mem
  rw [Brun_loop,List.all_nil,Bool.and_true]
  unfold trow at hN
  clear hS hl hd hr hj hlen
  repeat (any_goals first|simp -dsimp (maxSteps:=4000000) (maxDischargeDepth:=8) -implicitDefEqProofs [*,-Int.not_le,-Int.not_lt,amLt]|with_reducible (first|apply cB|apply iB)<;>intro _|intro _)
 | cons m l ih =>
  intro j b hr hj
  have hlen:=congrArg List.length hr
  simp only [List.length_drop,List.length_cons] at hlen
  have hg:r.mem[j]?=some m:=by
   have:=congrArg (·[0]?) hr
   simpa using this
  have htl:r.mem.drop (j+1)=l:=by
   have:=congrArg List.tail hr
   simpa using this
  have hjl:=(List.getElem?_eq_some_iff.1 hg).1
  have hrow:(memRows r.mem)[j]?=some (memRow m):=by simp [memRows,hg]
  have hrow2:∀ hh:j<(memRows r.mem).length,(memRows r.mem)[j]=memRow m:=fun hh=>(List.getElem?_eq_some_iff.1 hrow).2
  have hml:=memRows_len r.mem
  obtain ⟨d0,d1⟩:=hd m (List.mem_of_getElem? hg)
  have hb:=bcells_at d0 d1
  have hbl:=bcells_len ok
  have hb2:∀ hh:m.2.1.toNat<(bcells ok).length,(bcells ok)[m.2.1.toNat] = .bool (okD ok m.2.1):=fun hh=>(List.getElem?_eq_some_iff.1 hb).2
  have ih2:=ih (j+1) (b && okD ok m.2.1) htl (by omega)
  have h1:(j:Int)<r.mem.length:=by omega
  have e3:¬ (r.mem.length:Int)≤j:=by omega
  have hw:=cw64 j (by omega)
  push_cast at ih2
  rw [Brun_loop,List.all_cons]
  rw [Bool.and_assoc] at ih2
  generalize (l.all fun m=>okD ok m.2.1)=q at *
  unfold trow at hN
  unfold memRow at hrow hrow2
  generalize okD ok m.2.1=z at *
  generalize memRows r.mem=X at *
  clear ih hl hd hr hj hlen hg htl
  cases b
  ·simp only [Bool.false_and] at ih2 ⊢
   repeat (any_goals first|simp -dsimp (maxSteps:=4000000) (maxDischargeDepth:=8) -implicitDefEqProofs [*,-Int.not_le,-Int.not_lt,amLt]|with_reducible (first|apply cB|apply iB)<;>intro _|intro _)
  ·simp only [Bool.true_and] at ih2 ⊢
   repeat (any_goals first|simp -dsimp (maxSteps:=4000000) (maxDischargeDepth:=8) -implicitDefEqProofs [*,-Int.not_le,-Int.not_lt,amLt]|with_reducible (first|apply cB|apply iB)<;>intro _|intro _)
end
theorem deps_all (r:TR) (ok:List Bool):(deps r).all (okD ok)=((if r.kind=14 then okD ok r.elem else true) && r.mem.all fun m=>okD ok m.2.1):=by
 unfold deps
 rw [List.all_append,List.all_map]
 split
 ·simp;rfl
 ·simp;rfl
section
variable {T S cs:Nat} {e2:Bool} {rows:List TR} {c:Cap}
theorem grow_body (r:TR) (i:Nat) (ok:List Bool) (a:Bool) (G:Heap) (hT:G[T]?=some (.cells [.is (rows.map trow) c])) (hS:G[S]?=some (.cells (bcells ok))) (hi:rows[i]?=some r) (hi2:i≤512) (hok:ok.length=rows.length) (hl:r.mem.length≤16777216) (hd:∀ m ∈ r.mem,0≤m.2.1∧m.2.1<ok.length) (he:r.kind=14→0≤r.elem∧r.elem<ok.length) (hn:¬ ((deps r).all (okD ok)=true∧ok.getD i false=false)) :
  Brun tab 71 f83l6 (ofL [(0,.mp T 0),(3,.ms S 0 ok.length 1 cs e2),(4,.bool a),(5,.int .i64 i)]) G =
   some (.normal,ofL [(0,.mp T 0),(3,.ms S 0 ok.length 1 cs e2),(4,.bool a),(5,.int .i64 (i+1))],G ++ [.cells (trow r)]):=by
 have hr:(rows.map trow)[i]?=some (trow r):=by rw [List.getElem?_map,hi];rfl
 have hlt:i<(rows.map trow).length:=(List.getElem?_eq_some_iff.1 hr).1
 have hr2:∀ hh:i<(rows.map trow).length,(rows.map trow)[i]=trow r:=fun hh=>(List.getElem?_eq_some_iff.1 hr).2
 have h1:(i:Int)<(rows.map trow).length:=by omega
 have hil:i<ok.length:=by have:=(List.getElem?_eq_some_iff.1 hi).1;omega
 have h2:(i:Int)<ok.length:=by omega
 have hT3:=fun x=>rapp hT x
 have hS3:=fun x=>rapp hS x
 have hw:=cw64 i (by omega)
 have hbi:(bcells ok)[i]?=some (.bool (ok.getD i false)):=by
  have:=bcells_at (ok:=ok) (d:=i) (by omega) (by omega)
  simpa [okD] using this
 have hbl:=bcells_len ok
 have hbi2:∀ hh:i<(bcells ok).length,(bcells ok)[i] = .bool (ok.getD i false):=fun hh=>(List.getElem?_eq_some_iff.1 hbi).2
 have e3:¬ ((rows.map trow).length:Int)≤i:=by omega
 have lp:=fun b=>gmem_loop (cs:=cs) (e2:=e2) (N:=G.length) r ok (.mp T 0) (.bool a) (.int .i64 i) (G ++ [.cells (trow r)]) (hS3 _) (by simp) hl hd r.mem 0 b rfl (by omega)
 simp only [Int.natCast_zero] at lp
 rw [deps_all] at hn
 have hdec:((if r.kind=14 then okD ok r.elem else true) && r.mem.all fun m=>okD ok m.2.1)=false∨ok.getD i false=true:=by
  cases q1:((if r.kind=14 then okD ok r.elem else true) && r.mem.all fun m=>okD ok m.2.1) with
  | false=>exact .inl rfl
  | true =>
   right
   cases q2:ok.getD i false with
   | true=>rfl
   | false=>exact absurd ⟨q1,q2⟩ hn
 generalize (r.mem.all fun m=>okD ok m.2.1)=q at *
 generalize ok.getD i false=z at *
 by_cases k14:r.kind=14
 ·obtain ⟨d0,d1⟩:=he k14
  have hb:=bcells_at d0 d1
  have hb2:∀ hh:r.elem.toNat<(bcells ok).length,(bcells ok)[r.elem.toNat] = .bool (okD ok r.elem):=fun hh=>(List.getElem?_eq_some_iff.1 hb).2
  rw [if_pos k14] at hdec
  generalize okD ok r.elem=y at *
  generalize rows.map trow=X at *
  generalize bcells ok=B at *
  unfold trow at *
  clear hi hi2 hl hd he hn hok
  cases y
  ·replace lp:=lp false
   simp only [Bool.false_and,k14] at lp
   clear hdec
   repeat (any_goals first|simp -dsimp (maxSteps:=4000000) (maxDischargeDepth:=8) -implicitDefEqProofs [*,-Int.not_le,-Int.not_lt,amLt,ap4]|with_reducible (first|apply cB|apply iB)<;>intro _|intro _)
  ·replace lp:=lp true
   simp only [Bool.true_and,k14] at lp hdec
   rcases hdec with rfl|rfl
   ·repeat (any_goals first|simp -dsimp (maxSteps:=4000000) (maxDischargeDepth:=8) -implicitDefEqProofs [*,-Int.not_le,-Int.not_lt,amLt,ap4]|with_reducible (first|apply cB|apply iB)<;>intro _|intro _)
   ·repeat (any_goals first|simp -dsimp (maxSteps:=4000000) (maxDischargeDepth:=8) -implicitDefEqProofs [*,-Int.not_le,-Int.not_lt,amLt,ap4]|with_reducible (first|apply cB|apply iB)<;>intro _|intro _)
 ·rw [if_neg k14] at hdec
  replace lp:=lp true
  simp only [Bool.true_and] at lp hdec
  generalize rows.map trow=X at *
  generalize bcells ok=B at *
  unfold trow at *
  clear hi hi2 hl hd he hn hok
  rcases hdec with rfl|rfl
  ·repeat (any_goals first|simp -dsimp (maxSteps:=4000000) (maxDischargeDepth:=8) -implicitDefEqProofs [*,-Int.not_le,-Int.not_lt,amLt,ap4]|with_reducible (first|apply cB|apply iB)<;>intro _|intro _)
  ·repeat (any_goals first|simp -dsimp (maxSteps:=4000000) (maxDischargeDepth:=8) -implicitDefEqProofs [*,-Int.not_le,-Int.not_lt,amLt,ap4]|with_reducible (first|apply cB|apply iB)<;>intro _|intro _)
theorem grow_yes (r:TR) (i:Nat) (ok:List Bool) (a:Bool) (G:Heap) (hT:G[T]?=some (.cells [.is (rows.map trow) c])) (hS:G[S]?=some (.cells (bcells ok))) (hi:rows[i]?=some r) (hi2:i≤512) (hok:ok.length=rows.length) (hl:r.mem.length≤16777216) (hd:∀ m ∈ r.mem,0≤m.2.1∧m.2.1<ok.length) (he:r.kind=14→0≤r.elem∧r.elem<ok.length) (hn:(deps r).all (okD ok)=true∧ok.getD i false=false) :
  Brun tab 71 f83l6 (ofL [(0,.mp T 0),(3,.ms S 0 ok.length 1 cs e2),(4,.bool a),(5,.int .i64 i)]) G =
   some (.normal,ofL [(0,.mp T 0),(3,.ms S 0 ok.length 1 cs e2),(4,.bool true),(5,.int .i64 (i+1))],List.set (G ++ [Blk.cells (trow r)]) S (Blk.cells ((bcells ok).take i ++ .bool true :: (bcells ok).drop (i+1)))):=by
 have hr:(rows.map trow)[i]?=some (trow r):=by rw [List.getElem?_map,hi];rfl
 have hlt:i<(rows.map trow).length:=(List.getElem?_eq_some_iff.1 hr).1
 have hr2:∀ hh:i<(rows.map trow).length,(rows.map trow)[i]=trow r:=fun hh=>(List.getElem?_eq_some_iff.1 hr).2
 have h1:(i:Int)<(rows.map trow).length:=by omega
 have hil:i<ok.length:=by have:=(List.getElem?_eq_some_iff.1 hi).1;omega
 have h2:(i:Int)<ok.length:=by omega
 have hT3:=fun x=>rapp hT x
 have hS3:=fun x=>rapp hS x
 have hw:=cw64 i (by omega)
 have hbi:(bcells ok)[i]?=some (.bool (ok.getD i false)):=by
  have:=bcells_at (ok:=ok) (d:=i) (by omega) (by omega)
  simpa [okD] using this
 have hbl:=bcells_len ok
 have hil2:i<(bcells ok).length:=by omega
 have hil3:i+1≤(bcells ok).length:=by omega
 have hil4:i+1≤ok.length:=by omega
 have hbi2:∀ hh:i<(bcells ok).length,(bcells ok)[i] = .bool (ok.getD i false):=fun hh=>(List.getElem?_eq_some_iff.1 hbi).2
 have e3:¬ ((rows.map trow).length:Int)≤i:=by omega
 have lp:=fun b=>gmem_loop (cs:=cs) (e2:=e2) (N:=G.length) r ok (.mp T 0) (.bool a) (.int .i64 i) (G ++ [.cells (trow r)]) (hS3 _) (by simp) hl hd r.mem 0 b rfl (by omega)
 simp only [Int.natCast_zero] at lp
 rw [deps_all] at hn
 obtain ⟨hn1,hn2⟩:=hn
 generalize (r.mem.all fun m=>okD ok m.2.1)=q at *
 generalize ok.getD i false=z at *
 subst hn2
 by_cases k14:r.kind=14
 ·obtain ⟨d0,d1⟩:=he k14
  have hb:=bcells_at d0 d1
  have hb2:∀ hh:r.elem.toNat<(bcells ok).length,(bcells ok)[r.elem.toNat] = .bool (okD ok r.elem):=fun hh=>(List.getElem?_eq_some_iff.1 hb).2
  rw [if_pos k14] at hn1
  generalize okD ok r.elem=y at *
  generalize rows.map trow=X at *
  generalize bcells ok=B at *
  unfold trow at *
  clear hi hi2 hl hd he hok
  simp only [Bool.and_eq_true] at hn1
  obtain ⟨rfl,rfl⟩:=hn1
  replace lp:=lp true
  simp only [Bool.true_and,k14] at lp
  repeat (any_goals first|simp -dsimp (maxSteps:=4000000) (maxDischargeDepth:=8) -implicitDefEqProofs [*,-Int.not_le,-Int.not_lt,amLt,app_get,app_get0]|with_reducible (first|apply cB|apply iB)<;>intro _|intro _)
 ·rw [if_neg k14] at hn1
  replace lp:=lp true
  simp only [Bool.true_and] at lp hn1
  subst hn1
  generalize rows.map trow=X at *
  generalize bcells ok=B at *
  unfold trow at *
  clear hi hi2 hl hd he hok
  repeat (any_goals first|simp -dsimp (maxSteps:=4000000) (maxDischargeDepth:=8) -implicitDefEqProofs [*,-Int.not_le,-Int.not_lt,amLt,app_get,app_get0]|with_reducible (first|apply cB|apply iB)<;>intro _|intro _)
end
theorem pass_count {rows:List TR}:∀ (n i:Nat) (ok:List Bool) (a:Bool),ok.length=rows.length →
  (passS rows n i ok a).1.length=rows.length∧(passS rows n i ok a).1.count false≤ok.count false∧((passS rows n i ok a).2=true→a=true∨(passS rows n i ok a).1.count false<ok.count false):=by
 intro n
 induction n with
 | zero=>intro i ok a h;exact ⟨h,Nat.le_refl _,fun q => .inl q⟩
 | succ n ih =>
  intro i ok a h
  unfold passS
  cases hi:rows[i]? with
  | none=>exact ⟨h,Nat.le_refl _,fun q => .inl q⟩
  | some r =>
   dsimp only
   split
   ·rename_i q
    have hil:i<ok.length:=by have:=(List.getElem?_eq_some_iff.1 hi).1;omega
    have hf:ok[i]=false:=by
     have:=q.2
     rw [List.getD_eq_getElem?_getD,List.getElem?_eq_getElem hil] at this
     simpa using this
    obtain ⟨h1,h2,h3⟩:=ih (i+1) (ok.set i true) true (by rw [List.length_set];exact h)
    have hc:(ok.set i true).count false+1=ok.count false:=by
     have hp:0<ok.count false:=List.count_pos_iff.2 (hf ▸ List.getElem_mem hil)
     rw [List.count_set hil,hf]
     simp
     omega
    exact ⟨h1,by omega,fun _ => .inr (by omega)⟩
   ·exact ih (i+1) ok a h
theorem ground_ends {rows:List TR}:∀ (f:Nat) (ok:List Bool),ok.length=rows.length→ok.count false<f→∃ ok',groundS rows f ok=some ok'∧ok'.length=rows.length:=by
 intro f
 induction f with
 | zero=>intro ok _ h;omega
 | succ f ih =>
  intro ok hl h
  obtain ⟨h1,h2,h3⟩:=pass_count (rows:=rows) rows.length 0 ok false hl
  unfold groundS
  cases hq:passS rows rows.length 0 ok false with
  | mk x b =>
   rw [hq] at h1 h2 h3
   cases b with
   | false=>exact ⟨x,rfl,h1⟩
   | true =>
    rcases h3 rfl with e|e
    ·cases e
    ·exact ih x h1 (by dsimp only at e;omega)
section
variable {T S cs:Nat} {e2:Bool} {rows:List TR} {c:Cap}
theorem bcells_set {ok:List Bool} {i:Nat} (h:i<ok.length):(bcells ok).take i ++ .bool true :: (bcells ok).drop (i+1)=bcells (ok.set i true):=by
 unfold bcells
 rw [List.map_set,List.set_eq_take_append_cons_drop,if_pos (by rw [List.length_map];exact h)]
theorem pass_len {rows:List TR}:∀ (n i:Nat) (ok:List Bool) (a:Bool),(passS rows n i ok a).1.length=ok.length:=by
 intro n
 induction n with
 | zero=>intro i ok a;rfl
 | succ n ih =>
  intro i ok a
  unfold passS
  split
  ·rfl
  ·split
   ·rw [ih,List.length_set]
   ·exact ih ..
theorem pass_loop (hhi:rows.length≤512) (hD:∀ r ∈ rows,r.mem.length≤16777216∧∀ d ∈ deps r,0≤d∧d<rows.length) (hTS:T≠S):∀ (n i:Nat) (ok:List Bool) (a:Bool) (G:Heap),i+n=rows.length→ok.length=rows.length→G[T]?=some (.cells [.is (rows.map trow) c])→G[S]?=some (.cells (bcells ok)) →
  ∃ G',Ext G G' S∧G'[S]?=some (.cells (bcells (passS rows n i ok a).1))∧Brun tab 71 (.loop f83l6) (ofL [(0,.mp T 0),(3,.ms S 0 rows.length 1 cs e2),(4,.bool a),(5,.int .i64 i)]) G =
   some (.exit 2,ofL [(0,.mp T 0),(3,.ms S 0 rows.length 1 cs e2),(4,.bool (passS rows n i ok a).2),(5,.int .i64 rows.length),(22,.bool false)],G'):=by
 intro n
 induction n with
 | zero =>
  intro i ok a G hi hok hT hS
  refine ⟨G,Ext.refl G S,hS,?_⟩
  have hlen:(rows.map trow).length=rows.length:=List.length_map ..
  have e3:¬ (rows.length:Int)<i:=by omega
  have e4:(rows.length:Int)≤i:=by omega
  have e5:(rows.length:Int)=i:=by omega
  have hP:passS rows 0 i ok a=(ok,a):=rfl
  rw [Brun_loop,hP]
  dsimp only
  generalize rows.map trow=X at *
  clear hS hi hok hD hhi hP
  repeat (any_goals first|simp -dsimp (maxSteps:=4000000) (maxDischargeDepth:=8) -implicitDefEqProofs [*,-Int.not_le,-Int.not_lt,amLt]|with_reducible (first|apply cB|apply iB)<;>intro _|intro _)
 | succ n ih =>
  intro i ok a G hi hok hT hS
  have hlt:i<rows.length:=by omega
  have hg:rows[i]?=some rows[i]:=List.getElem?_eq_getElem hlt
  have hr:=hD rows[i] (List.getElem_mem hlt)
  have hdm:∀ m ∈ rows[i].mem,0≤m.2.1∧m.2.1<ok.length:=fun m hm=>by
   have:=hr.2 m.2.1 (by unfold deps;exact List.mem_append.2 (.inr (List.mem_map.2 ⟨m,hm,rfl⟩)))
   omega
  have hde:rows[i].kind=14→0≤rows[i].elem∧rows[i].elem<ok.length:=fun k=>by
   have:=hr.2 rows[i].elem (by unfold deps;rw [if_pos k];simp)
   omega
  unfold passS
  rw [hg]
  dsimp only
  by_cases hn:(deps rows[i]).all (okD ok)=true∧ok.getD i false=false
  ·rw [if_pos hn]
   have hb:=grow_yes (cs:=cs) (e2:=e2) rows[i] i ok a G hT hS hg (by omega) hok hr.1 hdm hde hn
   rw [bcells_set (by omega),hok] at hb
   have x1:Ext G (List.set (G ++ [Blk.cells (trow rows[i])]) S (.cells (bcells (ok.set i true)))) S:=(Ext.app G _ S).trans (Ext.set _ S _)
   have lt:=(List.getElem?_eq_some_iff.1 hT).1
   have ls:=(List.getElem?_eq_some_iff.1 hS).1
   obtain ⟨G',g1,g2,g3⟩:=ih (i+1) (ok.set i true) true _ (by omega) (by rw [List.length_set];exact hok) (by rw [x1.2 T lt hTS];exact hT) (by rw [List.getElem?_set,if_pos rfl,if_pos (by simp;omega)])
   refine ⟨G',x1.trans g1,g2,?_⟩
   push_cast at g3
   rw [Brun_loop,hb,bthen_normal]
   exact g3
  ·rw [if_neg hn]
   have hb:=grow_body (cs:=cs) (e2:=e2) rows[i] i ok a G hT hS hg (by omega) hok hr.1 hdm hde hn
   rw [hok] at hb
   obtain ⟨G',g1,g2,g3⟩:=ih (i+1) ok a (G ++ [.cells (trow rows[i])]) (by omega) hok (rapp hT _) (rapp hS _)
   refine ⟨G',(Ext.app G _ S).trans g1,g2,?_⟩
   push_cast at g3
   rw [Brun_loop,hb,bthen_normal]
   exact g3
theorem ground_loop (hhi:rows.length≤512) (hD:∀ r ∈ rows,r.mem.length≤16777216∧∀ d ∈ deps r,0≤d∧d<rows.length) (hTS:T≠S):∀ (f:Nat) (ok ok':List Bool) (G:Heap) (E:List (Nat × AV)),groundS rows f ok=some ok'→ok.length=rows.length→G[T]?=some (.cells [.is (rows.map trow) c])→G[S]?=some (.cells (bcells ok)) →
  ∃ G',Ext G G' S∧G'[S]?=some (.cells (bcells ok'))∧Brun tab 71 (.loop f83l3) (ofL ((0,.mp T 0) :: (3,.ms S 0 rows.length 1 cs e2) :: (4,.bool true) :: E)) G =
   some (.exit 0,ofL [(0,.mp T 0),(3,.ms S 0 rows.length 1 cs e2),(15,.bool false)],G'):=by
 intro f
 induction f with
 | zero=>intro ok ok' G E h;cases h
 | succ f ih =>
  intro ok ok' G E h hok hT hS
  obtain ⟨G1,x1,s1,b1⟩:=pass_loop (cs:=cs) (e2:=e2) hhi hD hTS rows.length 0 ok false G (by omega) hok hT hS
  have hpl:=pass_len (rows:=rows) rows.length 0 ok false
  unfold groundS at h
  have lt:=(List.getElem?_eq_some_iff.1 hT).1
  have hT1:G1[T]?=some (.cells [.is (rows.map trow) c]):=by rw [x1.2 T lt hTS];exact hT
  simp only [Int.natCast_zero] at b1
  cases hq:passS rows rows.length 0 ok false with
  | mk p b =>
   rw [hq] at h b1 s1 hpl
   dsimp only at b1 s1 hpl
   cases b with
   | true =>
    dsimp only at h
    obtain ⟨G2,x2,s2,b2⟩:=ih p ok' G1 [(5,.int .i64 rows.length),(22,.bool false)] h (by omega) hT1 s1
    refine ⟨G2,x1.trans x2,s2,?_⟩
    rw [Brun_loop]
    clear hq h hok hT hS s1 s2 x1 x2 hD ih hT1 hpl
    repeat (any_goals first|simp -dsimp (maxSteps:=4000000) (maxDischargeDepth:=8) -implicitDefEqProofs [*,-Int.not_le,-Int.not_lt,amLt]|with_reducible (first|apply cB|apply iB)<;>intro _|intro _)
   | false =>
    simp only [Option.some.injEq] at h
    subst h
    refine ⟨G1,x1,s1,?_⟩
    have hb2:Brun tab 71 f83l3 (ofL [(0,.mp T 0),(3,.ms S 0 rows.length 1 cs e2),(4,.bool false),(5,.int .i64 rows.length),(22,.bool false)]) G1=some (.exit 0,ofL [(0,.mp T 0),(3,.ms S 0 rows.length 1 cs e2),(15,.bool false)],G1):=by
     clear hq hok hT hS s1 x1 hD ih hT1 hpl b1
     repeat (any_goals first|simp -dsimp (maxSteps:=4000000) (maxDischargeDepth:=8) -implicitDefEqProofs [*,-Int.not_le,-Int.not_lt,amLt]|with_reducible (first|apply cB|apply iB)<;>intro _|intro _)
    have hb1:Brun tab 71 f83l3 (ofL ((0,.mp T 0) :: (3,.ms S 0 rows.length 1 cs e2) :: (4,.bool true) :: E)) G=some (.normal,ofL [(0,.mp T 0),(3,.ms S 0 rows.length 1 cs e2),(4,.bool false),(5,.int .i64 rows.length),(22,.bool false)],G1):=by
     clear hq hok hT hS s1 x1 hD ih hT1 hpl hb2
     repeat (any_goals first|simp -dsimp (maxSteps:=4000000) (maxDischargeDepth:=8) -implicitDefEqProofs [*,-Int.not_le,-Int.not_lt,amLt]|with_reducible (first|apply cB|apply iB)<;>intro _|intro _)
    rw [Brun_loop,hb1,bthen_normal,Brun_loop,hb2]
    rfl
end
def KeepsX (C:Nat) (h h':Heap):Prop:=h.length≤h'.length∧∀ (k:Nat) (b:Blk),k≠C→h[k]?=some b→b ≠ .tok→b ≠ .free→h'[k]?=some b
theorem KeepsX.refl (C:Nat) (h:Heap):KeepsX C h h:=⟨Nat.le_refl _,fun _ _ _ h _ _=>h⟩
theorem KeepsX.trans {C:Nat} {a b c:Heap} (p:KeepsX C a b) (q:KeepsX C b c):KeepsX C a c:=⟨Nat.le_trans p.1 q.1,fun k x h0 h1 h2 h3=>q.2 k x h0 (p.2 k x h0 h1 h2 h3) h2 h3⟩
theorem KeepsX.cells {C:Nat} {h h':Heap} (p:KeepsX C h h') {k:Nat} {cs:List AV} (hc:k≠C) (hk:h[k]?=some (.cells cs)):h'[k]?=some (.cells cs):=p.2 k _ hc hk (fun q=>by cases q) fun q=>by cases q
theorem row_ok (h:Heap) (r:TR) (hl:r.mem.length≤16777216):Ccall tab 89 [.agg (trow r)] h=some (.agg (trow { r with cap:= .no }),h):=by
 unfold trow
 refine Ccall_own rfl rfl rfl rfl ?_
 obtain ⟨kind,elem,len,tag,mem,done,cp⟩:=r
 dsimp only at *
 by_cases hne:memRows mem=[]
 ·have hap:=fun slot cap c2 h=>appF_none slot 3 32 [] cap c2 h
  rw [hne]
  clear hl hne
  repeat (any_goals first|simp -dsimp (maxSteps:=4000000) (maxDischargeDepth:=8) -implicitDefEqProofs [*,-Int.not_le,-Int.not_lt,amLt]|with_reducible (first|apply cB|apply iB)<;>intro _|intro _)
 ·have hap:=fun slot cap c2 h=>appF_rows slot 3 32 [] cap c2 h (memRows_ok mem) hne
  have hroom:roomy (([]:List (List AV)).length+(memRows mem).length) 32=true:=by rw [memRows_len];exact roomy_sm (by simp;omega) (by decide)
  have rk:∀ h,roomOK Cap.nil 3 [] h=true:=fun h=>roomOK_nil 3 h
  have sp:∀ h,spend Cap.nil h=h:=fun h=>rfl
  simp only [List.nil_append,List.length_nil,Nat.zero_add] at hap hroom
  generalize memRows mem=R at *
  clear hl hne
  repeat (any_goals first|simp -dsimp (maxSteps:=4000000) (maxDischargeDepth:=8) -implicitDefEqProofs [*,-Int.not_le,-Int.not_lt,amLt]|with_reducible (first|apply cB|apply iB)<;>intro _|intro _)
def eraseR (r:TR):TR:={ r with cap:= .no }
theorem row_acall (w:TR) (hl:w.mem.length≤16777216) (h:Heap):∃ w',Acall tab 89 [.agg (trow w)] h=some (.agg (trow (eraseR w)),h,w'):=by
 have:=row_ok h w hl
 unfold Ccall at this
 obtain ⟨⟨v,h2,w'⟩,q1,q2⟩:=Option.map_eq_some_iff.1 this
 simp only [Prod.mk.injEq] at q2
 obtain ⟨rfl,rfl⟩:=q2
 exact ⟨w',q1⟩
theorem r4_nil (G:Heap) (T C:Nat) (X:List (List AV)) (c:Cap) (x13:AV) (i:Nat) (w:TR) (hT:G[T]?=some (.cells [.is X c])) (hC:G[C]?=some (.cells [.is [] .nil])) (hi:i≤512) (hl:w.mem.length≤16777216) (hw:X[i]?=some (trow w)) :
  Brun tab 34 (.region true f34r4 [0,3,4] 1) (ofL [(0,.mp T 0),(3,.mp C 0),(4,.int .i64 i),(13,x13)]) G =
  some (.normal,ofL [(0,.mp T 0),(3,.mp C 0),(4,.int .i64 i)],List.set G C (.cells [.is [trow (eraseR w)] (.tok G.length 6)]) ++ [.tok]):=by
 have lt:=(List.getElem?_eq_some_iff.1 hT).1
 have lc:=(List.getElem?_eq_some_iff.1 hC).1
 have g1:∀ x,(G ++ x)[T]?=some (.cells [.is X c]):=fun x=>rapp hT x
 have g1':∀ x (hh:T<(G ++ x).length),(G ++ x)[T]'hh = .cells [.is X c]:=fun x hh=>(List.getElem?_eq_some_iff.1 (g1 x)).2
 have g2:∀ x,(G ++ x)[C]?=some (.cells [.is [] .nil]):=fun x=>rapp hC x
 have g2':∀ x (hh:C<(G ++ x).length),(G ++ x)[C]'hh = .cells [.is [] .nil]:=fun x hh=>(List.getElem?_eq_some_iff.1 (g2 x)).2
 have s1:∀ x b,(G ++ x).set C b=G.set C b ++ x:=fun x b=>by rw [List.set_append_left _ _ lc]
 have hcl:¬ G.length=C:=by omega
 have hlc:¬ C=G.length:=by omega
 have hlt:¬ T=G.length:=by omega
 obtain ⟨w',hw'⟩:=row_acall w hl (G ++ [.free])
 have hw2:∀ hh:i<X.length,X[i]=trow w:=fun hh=>(List.getElem?_eq_some_iff.1 hw).2
 have hx:=(List.getElem?_eq_some_iff.1 hw).1
 have hww:eraseR w={ w with cap:= .no }:=rfl
 rw [hww] at hw' ⊢
 unfold trow at hw' hw hw2 ⊢
 refine Brun_told ?_
 clear hT hC hi hl lt lc hww
 simp [*,f34r4,asteps,astep,stepRun,aop,HC.run,HC.rds,HC.wrs,HC.ofOpt,Blk.isFree,wanted,put,cellsOf,isSc,splice,cget,slen,ssz,scells,roomy,rowsz,Cap.tight,drawOK,freeOf,Rec.indep,disj,apart,AOper.looks,AOp.tmps,AO.tmps,pTmps,oTmps,Nat.testBit,ap4,ofL,isPure,tab,f89,fillp,imm,imm.immL,strip,strip.stripL,chunk,Nat.add_assoc]
theorem r4_tok (G:Heap) (T C K:Nat) (X D:List (List AV)) (c:Cap) (x13:AV) (i:Nat) (w:TR) (hT:G[T]?=some (.cells [.is X c])) (hC:G[C]?=some (.cells [.is D (.tok K 6)])) (hK:G[K]?=some .tok) (hi:i≤512) (hD:D.length=i) (hl:w.mem.length≤16777216) (hw:X[i]?=some (trow w)) :
  Brun tab 34 (.region true f34r4 [0,3,4] 1) (ofL [(0,.mp T 0),(3,.mp C 0),(4,.int .i64 i),(13,x13)]) G =
  some (.normal,ofL [(0,.mp T 0),(3,.mp C 0),(4,.int .i64 i)],List.set (List.set G K .dead) C (.cells [.is (D ++ [trow (eraseR w)]) (.tok G.length 6)]) ++ [.tok]):=by
 have lt:=(List.getElem?_eq_some_iff.1 hT).1
 have lc:=(List.getElem?_eq_some_iff.1 hC).1
 have lk:=(List.getElem?_eq_some_iff.1 hK).1
 have hTK:¬ K=T:=fun e=>by rw [e,hT] at hK;cases hK
 have hCK:¬ K=C:=fun e=>by rw [e,hC] at hK;cases hK
 have hCK2:¬ C=K:=fun e=>hCK e.symm
 have hTK2:¬ T=K:=fun e=>hTK e.symm
 have g1:∀ x,(G ++ x)[T]?=some (.cells [.is X c]):=fun x=>rapp hT x
 have g1':∀ x (hh:T<(G ++ x).length),(G ++ x)[T]'hh = .cells [.is X c]:=fun x hh=>(List.getElem?_eq_some_iff.1 (g1 x)).2
 have g2:∀ x,(G ++ x)[C]?=some (.cells [.is D (.tok K 6)]):=fun x=>rapp hC x
 have g2':∀ x (hh:C<(G ++ x).length),(G ++ x)[C]'hh = .cells [.is D (.tok K 6)]:=fun x hh=>(List.getElem?_eq_some_iff.1 (g2 x)).2
 have g3:∀ x,(G ++ x)[K]?=some .tok:=fun x=>rapp hK x
 have g3':∀ x (hh:K<(G ++ x).length),(G ++ x)[K]'hh = .tok:=fun x hh=>(List.getElem?_eq_some_iff.1 (g3 x)).2
 have s1:∀ x b,(G ++ x).set K b=G.set K b ++ x:=fun x b=>by rw [List.set_append_left _ _ lk]
 have g4:∀ x,(G.set K .dead ++ x)[C]?=some (.cells [.is D (.tok K 6)]):=fun x=>by rw [List.getElem?_append_left (by simpa using lc),List.getElem?_set_ne hCK];exact hC
 have g4':∀ x (hh:C<(G.set K .dead ++ x).length),(G.set K .dead ++ x)[C]'hh = .cells [.is D (.tok K 6)]:=fun x hh=>(List.getElem?_eq_some_iff.1 (g4 x)).2
 have s2:∀ x b,(G.set K .dead ++ x).set C b=(G.set K .dead).set C b ++ x:=fun x b=>by rw [List.set_append_left _ _ (by simpa using lc)]
 have hsl:(G.set K Blk.dead).length=G.length:=List.length_set ..
 have hcl:¬ G.length=C:=by omega
 have hlc:¬ C=G.length:=by omega
 have hlt:¬ T=G.length:=by omega
 have hkl:¬ G.length=K:=by omega
 have hlk:¬ K=G.length:=by omega
 obtain ⟨w',hw'⟩:=row_acall w hl (G ++ [.free])
 have hw2:∀ hh:i<X.length,X[i]=trow w:=fun hh=>(List.getElem?_eq_some_iff.1 hw).2
 have hx:=(List.getElem?_eq_some_iff.1 hw).1
 have hww:eraseR w={ w with cap:= .no }:=rfl
 rw [hww] at hw' ⊢
 have hrm:(D.length+1)*72≤140737488355328:=by omega
 have hrm2:(i+1)*72≤140737488355328:=by omega
 have hrm3:¬ 140737488355328<(i+1)*72:=by omega
 unfold trow at hw' hw hw2 ⊢
 refine Brun_told ?_
 clear hT hC hK hi hl lt lc lk hww
 simp [*,f34r4,asteps,astep,stepRun,aop,HC.run,HC.rds,HC.wrs,HC.ofOpt,Blk.isFree,wanted,put,cellsOf,isSc,splice,cget,slen,ssz,scells,roomy,rowsz,Cap.tight,drawOK,freeOf,Rec.indep,disj,apart,AOper.looks,AOp.tmps,AO.tmps,pTmps,oTmps,Nat.testBit,ap4,ofL,isPure,tab,f89,fillp,imm,imm.immL,strip,strip.stripL,chunk,Nat.add_assoc]
def CapOK (G:Heap) (D:List (List AV)) (cap:Cap):Prop:=(cap = .nil∧D=[])∨∃ K,cap = .tok K 6∧G[K]?=some .tok
theorem copy_step (G:Heap) (T C:Nat) (X D:List (List AV)) (c cap:Cap) (i:Nat) (w:TR) (hT:G[T]?=some (.cells [.is X c])) (hC:G[C]?=some (.cells [.is D cap])) (hTC:T≠C) (hw:X[i]?=some (trow w)) (hD:D.length=i) (hi:i≤512) (hcap:CapOK G D cap) (hl:w.mem.length≤16777216) :
  ∃ G',KeepsX C G G'∧G'[C]?=some (.cells [.is (D ++ [trow (eraseT w)]) (.tok G.length 6)])∧G'[G.length]?=some .tok ∧
   Brun tab 34 f34l3 (ofL [(0,.mp T 0),(3,.mp C 0),(4,.int .i64 i)]) G=some (.normal,ofL [(0,.mp T 0),(3,.mp C 0),(4,.int .i64 (i+1))],G'):=by
 have lt:=(List.getElem?_eq_some_iff.1 hT).1
 have lc:=(List.getElem?_eq_some_iff.1 hC).1
 have lx:=(List.getElem?_eq_some_iff.1 hw).1
 have h1:(i:Int)<X.length:=by omega
 have e3:¬ (X.length:Int)≤i:=by omega
 have hw64:=cw64 i (by omega)
 rcases hcap with ⟨rfl,rfl⟩|⟨K,rfl,hK⟩
 ·refine ⟨List.set G C (.cells [.is [trow (eraseR w)] (.tok G.length 6)]) ++ [.tok],⟨by simp,fun k b hk hb ht hf=>?_⟩,?_,?_,?_⟩
  ·have lk:=(List.getElem?_eq_some_iff.1 hb).1
   rw [List.getElem?_append_left (by simpa using lk),List.getElem?_set_ne (Ne.symm hk)];exact hb
  ·rw [List.getElem?_append_left (by simpa using lc),List.getElem?_set,if_pos rfl,if_pos lc];rfl
  ·rw [List.getElem?_append_right (by simp),List.length_set,Nat.sub_self];rfl
  ·have hr:=fun x13=>r4_nil G T C X c x13 i w hT hC hi hl hw
   generalize List.set G C (.cells [.is [trow (eraseR w)] (.tok G.length 6)]) ++ [.tok]=N at *
   clear hw hD hC hl hTC lt lc lx hi
   repeat (any_goals first|simp -dsimp (maxSteps:=4000000) (maxDischargeDepth:=8) -implicitDefEqProofs [*,-Int.not_le,-Int.not_lt,amLt]|with_reducible (first|apply cB|apply iB)<;>intro _|intro _)
 ·have hTK:¬ K=T:=fun e=>by rw [e,hT] at hK;cases hK
  have hCK:¬ K=C:=fun e=>by rw [e,hC] at hK;cases hK
  refine ⟨List.set (List.set G K .dead) C (.cells [.is (D ++ [trow (eraseR w)]) (.tok G.length 6)]) ++ [.tok],⟨by simp,fun k b hk hb ht hf=>?_⟩,?_,?_,?_⟩
  ·have lk:=(List.getElem?_eq_some_iff.1 hb).1
   have hkK:K≠k:=fun e=>by rw [← e,hK] at hb;cases hb;exact ht rfl
   rw [List.getElem?_append_left (by simpa using lk),List.getElem?_set_ne (Ne.symm hk),List.getElem?_set_ne hkK];exact hb
  ·rw [List.getElem?_append_left (by simpa using lc),List.getElem?_set,if_pos rfl,if_pos (by simpa using lc)];rfl
  ·rw [List.getElem?_append_right (by simp),List.length_set,List.length_set,Nat.sub_self];rfl
  ·have hr:=fun x13=>r4_tok G T C K X D c x13 i w hT hC hK hi hD hl hw
   generalize List.set (List.set G K .dead) C (.cells [.is (D ++ [trow (eraseR w)]) (.tok G.length 6)]) ++ [.tok]=N at *
   clear hw hD hC hl hTC lt lc lx hi hK hTK hCK
   repeat (any_goals first|simp -dsimp (maxSteps:=4000000) (maxDischargeDepth:=8) -implicitDefEqProofs [*,-Int.not_le,-Int.not_lt,amLt]|with_reducible (first|apply cB|apply iB)<;>intro _|intro _)
theorem copy_loop (T C:Nat) (rows:List TR) (c:Cap) (hn:rows.length≤512) (hTC:T≠C) (hl:∀ w ∈ rows,w.mem.length≤16777216):∀ (m i:Nat) (G:Heap) (cap:Cap),i+m=rows.length→G[T]?=some (.cells [.is (rows.map trow) c])→G[C]?=some (.cells [.is (((rows.take i).map eraseT).map trow) cap])→CapOK G (((rows.take i).map eraseT).map trow) cap →
  ∃ G' cap',KeepsX C G G'∧G'[C]?=some (.cells [.is ((rows.map eraseT).map trow) cap']) ∧
   Brun tab 34 (.loop f34l3) (ofL [(0,.mp T 0),(3,.mp C 0),(4,.int .i64 i)]) G=some (.exit 0,ofL [(0,.mp T 0),(3,.mp C 0),(4,.int .i64 rows.length),(13,.bool false)],G'):=by
 intro m
 induction m with
 | zero =>
  intro i G cap hi hT hC hcap
  refine ⟨G,cap,KeepsX.refl C G,by rw [List.take_of_length_le (by omega)] at hC;exact hC,?_⟩
  have e5:(rows.length:Int)=i:=by omega
  have e6:((rows.map trow).length:Int)=i:=by rw [List.length_map];exact e5
  rw [Brun_loop]
  generalize rows.map trow=X at *
  clear hC hcap hl hn
  repeat (any_goals first|simp -dsimp (maxSteps:=4000000) (maxDischargeDepth:=8) -implicitDefEqProofs [*,-Int.not_le,-Int.not_lt,amLt]|with_reducible (first|apply cB|apply iB)<;>intro _|intro _)
 | succ m ih =>
  intro i G cap hi hT hC hcap
  have hlt:i<rows.length:=by omega
  have hg:rows[i]?=some rows[i]:=List.getElem?_eq_getElem hlt
  have hrow:(rows.map trow)[i]?=some (trow rows[i]):=by rw [List.getElem?_map,hg];rfl
  have hml:=hl rows[i] (List.getElem_mem hlt)
  obtain ⟨G1,k1,c1,t1,b1⟩:=copy_step G T C (rows.map trow) _ c cap i rows[i] hT hC hTC hrow (by simp;omega) (by omega) hcap hml
  have htk:((rows.take (i+1)).map eraseT).map trow=((rows.take i).map eraseT).map trow ++ [trow (eraseT rows[i])]:=by
   rw [List.take_add_one,hg,List.map_append,List.map_append];rfl
  obtain ⟨G2,cap2,k2,c2,b2⟩:=ih (i+1) G1 (.tok G.length 6) (by omega) (k1.cells hTC hT) (by rw [htk];exact c1) (.inr ⟨_,rfl,t1⟩)
  refine ⟨G2,cap2,k1.trans k2,c2,?_⟩
  push_cast at b2
  rw [Brun_loop,b1,bthen_normal]
  exact b2
theorem KeepsX.new {G G':Heap} {b:Blk} (h:KeepsX G.length (G ++ [b]) G'):Keeps G G':=⟨by have:=h.1;simp at this;omega,fun k x hk h1 h2=>h.2 k x (by have:=(List.getElem?_eq_some_iff.1 hk).1;omega) (by rw [List.getElem?_append_left (List.getElem?_eq_some_iff.1 hk).1];exact hk) h1 h2⟩
theorem copy_ok (G:Heap) (T:Nat) (rows:List TR) (c:Cap) (hn:rows.length≤512) (hl:∀ w ∈ rows,w.mem.length≤16777216) (hT:G[T]?=some (.cells [.is (rows.map trow) c])) :
  ∃ G' cap',Keeps G G'∧G'[G.length]?=some (.cells [.is ((rows.map eraseT).map trow) cap'])∧Ccall tab 34 [.mp T 0] G=some (.mp G.length 0,G'):=by
 have lt:=(List.getElem?_eq_some_iff.1 hT).1
 obtain ⟨G',cap',k1,c1,b1⟩:=copy_loop T G.length rows c hn (by omega) hl rows.length 0 (G ++ [.cells [.is [] .nil]]) .nil (by omega) (rapp hT _) (by simp) (.inl ⟨rfl,rfl⟩)
 refine ⟨G',cap',k1.new,c1,?_⟩
 refine Ccall_over rfl rfl rfl rfl ?_
 simp only [Int.natCast_zero] at b1
 generalize rows.map trow=X at *
 clear k1 c1 hl hn hT lt
 repeat (any_goals first|simp -dsimp (maxSteps:=4000000) (maxDischargeDepth:=8) -implicitDefEqProofs [*,-Int.not_le,-Int.not_lt,amLt,ap4]|with_reducible (first|apply cB|apply iB)<;>intro _|intro _)
theorem shaped_deps {rows:List TR} {i:Nat} {r:TR} (hi:rows[i]?=some r) (hs:rshapedS rows i r=true):∀ d ∈ deps r,0≤d∧d<rows.length:=by
 have hlt:=(List.getElem?_eq_some_iff.1 hi).1
 intro d hd
 unfold deps at hd
 unfold rshapedS at hs
 split at hs
 ·unfold basicR at hs
  simp only [decide_eq_true_eq] at hs
  obtain ⟨h1,h2,h3,h4,h5,h6⟩:=hs
  rw [h5] at hd
  rename_i hlt
  rw [if_neg (by omega)] at hd
  simp at hd
 ·split at hs
  ·rename_i k
   simp only [plainR,Bool.and_eq_true,decide_eq_true_eq] at hs
   rw [hs.2.2.1,if_neg (by omega)] at hd
   simp at hd
  ·split at hs
   ·rename_i k
    rw [if_neg (by omega),List.nil_append] at hd
    simp only [plainR,Bool.and_eq_true,Bool.or_eq_true,decide_eq_true_eq] at hs
    rcases hs.2.2 with q|q
    ·rw [q.1] at hd;cases hd
    ·obtain ⟨m,hm,rfl⟩:=List.mem_map.1 hd
     have hq:=q.2
     unfold membersE at hq
     split at hq
     ·cases hq
     ·have:=has_lt (memsE_has hq m hm).1
      omega
   ·split at hs
    ·rename_i k
     simp only [plainR,Bool.and_eq_true,decide_eq_true_eq] at hs
     rw [hs.2.1,if_neg (by omega)] at hd
     simp at hd
    ·split at hs
     ·rename_i k
      simp only [plainR,Bool.and_eq_true,decide_eq_true_eq] at hs
      rw [hs.2.2.2.1.1,if_pos k] at hd
      simp at hd
      rw [hd]
      have:=hs.1
      omega
     ·cases hs
theorem bcells_rep (n:Nat):repeatCells n [.bool false]=bcells (List.replicate n false):=by
 unfold repeatCells bcells
 induction n with
 | zero=>rfl
 | succ n ih =>
  rw [List.replicate_succ,List.flatten_cons,ih]
  rfl
section
variable {C:Nat} {rows:List TR} {c:Cap}
theorem grounded_ok (hhi:rows.length≤512) (hD:∀ r ∈ rows,r.mem.length≤16777216∧∀ d ∈ deps r,0≤d∧d<rows.length) {G:Heap} (hC:G[C]?=some (.cells [.is (rows.map trow) c])) {f:Nat} {ok':List Bool} (hg:groundS rows f (List.replicate rows.length false)=some ok') :
  ∃ G',Keeps G G'∧G'[G.length]?=some (.cells (bcells ok'))∧Ccall tab 83 [.mp C 0] G=some (.ms G.length 0 rows.length 1 rows.length true,G'):=by
 have lc:=(List.getElem?_eq_some_iff.1 hC).1
 have hC2:(G ++ [Blk.cells (bcells (List.replicate rows.length false))])[C]?=some (.cells [.is (rows.map trow) c]):=rapp hC _
 obtain ⟨G',x1,s1,b1⟩:=ground_loop (S:=G.length) (cs:=rows.length) (e2:=true) hhi hD (by omega) f _ ok' (G ++ [.cells (bcells (List.replicate rows.length false))]) [] hg (by simp) hC2 (by simp)
 refine ⟨G',⟨by have:=x1.1;simp at this;omega,fun k b hk h1 h2=>?_⟩,s1,?_⟩
 ·have lk:=(List.getElem?_eq_some_iff.1 hk).1
  rw [x1.2 k (by simp;omega) (by omega),List.getElem?_append_left lk];exact hk
 ·have hC3:∀ x,(G ++ x)[C]?=some (.cells [.is (rows.map trow) c]):=fun x=>rapp hC x
  have hrp:=bcells_rep rows.length
  have hroom:roomy rows.length 1=true:=roomy_sm (by omega) (by decide)
  have hlen:(rows.map trow).length=rows.length:=List.length_map ..
  have e4:(rows.length:Int)≤9223372036854775807:=by omega
  refine Ccall_over rfl rfl rfl rfl ?_
  generalize rows.map trow=X at *
  generalize bcells (List.replicate rows.length false)=B at *
  generalize rows.length=n at *
  clear hD hC2 hg x1 s1 hhi lc
  repeat (any_goals first|simp -dsimp (maxSteps:=4000000) (maxDischargeDepth:=8) -implicitDefEqProofs [*,-Int.not_le,-Int.not_lt,amLt,ap4]|with_reducible (first|apply cB|apply iB)<;>intro _|intro _)
def allS (rows:List TR) (i:Nat):Bool:=(List.range (rows.length - i)).all fun k=>match rows[i+k]? with
 | some r=>rshapedS rows (i+k) r && !twiceS rows (i+k) r
 | none=>true
theorem allS_end {rows:List TR} {i:Nat} (h:rows.length≤i):allS rows i=true:=by
 unfold allS
 rw [show rows.length - i=0 by omega];rfl
theorem allS_next {rows:List TR} {i:Nat} (h:i<rows.length):allS rows i=((rshapedS rows i rows[i] && !twiceS rows i rows[i]) && allS rows (i+1)):=by
 unfold allS
 rw [show rows.length - i=(rows.length - (i+1))+1 by omega,List.range_succ_eq_map,List.all_cons,List.all_map]
 congr 1
 ·simp [h]
 ·congr 1
  funext k
  simp only [Function.comp]
  rw [show i+(k+1)=i+1+k by omega]
theorem allS_spec {rows:List TR} (h:allS rows 0=true):∀ i r,rows[i]?=some r→rshapedS rows i r=true∧twiceS rows i r=false:=by
 intro i r hi
 have hlt:=(List.getElem?_eq_some_iff.1 hi).1
 unfold allS at h
 have:=List.all_eq_true.1 h i (List.mem_range.2 (by omega))
 rw [Nat.zero_add,hi] at this
 simpa using this
theorem rows_loop (hhi:rows.length≤512) (hsz:∀ w ∈ rows,w.tag.length≤1048576∧w.mem.length≤16777216∧∀ m ∈ w.mem,m.1.length≤1048576):∀ (m i:Nat) (G:Heap),i+m=rows.length→G[C]?=some (.cells [.is (rows.map trow) c]) →
  ∃ Y,(allS rows i=true→Brun tab 52 (.loop f32l5) (ofL [(4,.mp C 0),(5,.int .i64 i)]) G=some (.exit 0,ofL [(4,.mp C 0),(5,.int .i64 rows.length),(26,.bool false)],G ++ Y)) ∧
   (allS rows i=false→Brun tab 52 (.loop f32l5) (ofL [(4,.mp C 0),(5,.int .i64 i)]) G=some (.ret,ofL [(2,.nilp),(3,.int .i64 30)],G ++ Y)):=by
 intro m
 induction m with
 | zero =>
  intro i G hi hC
  refine ⟨[],fun _=>?_,fun q=>?_⟩
  ·have e5:(rows.length:Int)=i:=by omega
   have e6:((rows.map trow).length:Int)=i:=by rw [List.length_map];exact e5
   rw [Brun_loop,List.append_nil]
   generalize rows.map trow=X at *
   clear hi hsz hhi
   repeat (any_goals first|simp -dsimp (maxSteps:=4000000) (maxDischargeDepth:=8) -implicitDefEqProofs [*,-Int.not_le,-Int.not_lt,amLt]|with_reducible (first|apply cB|apply iB)<;>intro _|intro _)
  ·rw [allS_end (by omega)] at q;cases q
 | succ m ih =>
  intro i G hi hC
  have hlt:i<rows.length:=by omega
  have hg:rows[i]?=some rows[i]:=List.getElem?_eq_getElem hlt
  obtain ⟨z1,z2,z3⟩:=hsz rows[i] (List.getElem_mem hlt)
  obtain ⟨Y,hs⟩:=rshaped_ok hC hg (by omega) z1 z2 z3
  have hC2:(G ++ Y)[C]?=some (.cells [.is (rows.map trow) c]):=rapp hC _
  have ht:=rtwice_ok hC2 hg (by omega)
  obtain ⟨Y2,i1,i2⟩:=ih (i+1) (G ++ Y ++ [.cells (trow rows[i])]) (by omega) (rapp hC2 _)
  have h1:(i:Int)<(rows.map trow).length:=by rw [List.length_map];omega
  have e3:¬ ((rows.map trow).length:Int)≤i:=by omega
  have hw:=cw64 i (by omega)
  rw [allS_next hlt]
  push_cast at i1 i2
  generalize rshapedS rows i rows[i]=a at *
  generalize twiceS rows i rows[i]=b at *
  generalize allS rows (i+1)=q at *
  generalize rows.map trow=X at *
  generalize trow rows[i]=R at *
  clear ih hsz hhi hg z1 z2 z3 hi
  cases a
  ·refine ⟨Y,fun h=>(by cases h),fun _=>?_⟩
   rw [Brun_loop]
   clear i1 i2 ht
   repeat (any_goals first|simp -dsimp (maxSteps:=4000000) (maxDischargeDepth:=8) -implicitDefEqProofs [*,-Int.not_le,-Int.not_lt,amLt]|with_reducible (first|apply cB|apply iB)<;>intro _|intro _)
  ·cases b
   ·refine ⟨Y ++ [.cells R] ++ Y2,fun h=>?_,fun h=>?_⟩
    ·replace i1:=i1 (by simpa using h)
     rw [Brun_loop]
     simp only [List.append_assoc] at *
     clear i2 h
     repeat (any_goals first|simp -dsimp (maxSteps:=4000000) (maxDischargeDepth:=8) -implicitDefEqProofs [*,-Int.not_le,-Int.not_lt,amLt]|with_reducible (first|apply cB|apply iB)<;>intro _|intro _)
    ·replace i2:=i2 (by simpa using h)
     rw [Brun_loop]
     simp only [List.append_assoc] at *
     clear i1 h
     repeat (any_goals first|simp -dsimp (maxSteps:=4000000) (maxDischargeDepth:=8) -implicitDefEqProofs [*,-Int.not_le,-Int.not_lt,amLt]|with_reducible (first|apply cB|apply iB)<;>intro _|intro _)
   ·refine ⟨Y ++ [.cells R],fun h=>(by simp at h),fun _=>?_⟩
    rw [Brun_loop]
    simp only [List.append_assoc] at *
    clear i1 i2
    repeat (any_goals first|simp -dsimp (maxSteps:=4000000) (maxDischargeDepth:=8) -implicitDefEqProofs [*,-Int.not_le,-Int.not_lt,amLt]|with_reducible (first|apply cB|apply iB)<;>intro _|intro _)
theorem okall_loop (S cs:Nat) (e2:Bool) (x4:AV) (ok:List Bool) (hn:ok.length≤512) (G:Heap) (hS:G[S]?=some (.cells (bcells ok))):∀ (m i:Nat),i+m=ok.length →
  ((ok.drop i).all id=true→Brun tab 52 (.loop f32l11) (ofL [(4,x4),(6,.ms S 0 ok.length 1 cs e2),(7,.int .i64 i)]) G=some (.exit 2,ofL [(4,x4),(6,.ms S 0 ok.length 1 cs e2),(7,.int .i64 ok.length),(43,.bool false)],G)) ∧
   ((ok.drop i).all id=false→Brun tab 52 (.loop f32l11) (ofL [(4,x4),(6,.ms S 0 ok.length 1 cs e2),(7,.int .i64 i)]) G=some (.ret,ofL [(2,.nilp),(3,.int .i64 30)],G)):=by
 intro m
 induction m with
 | zero =>
  intro i hi
  have e5:(ok.length:Int)=i:=by omega
  rw [List.drop_eq_nil_of_le (by omega)]
  refine ⟨fun _=>?_,fun q=>(by cases q)⟩
  rw [Brun_loop]
  clear hi hn hS
  repeat (any_goals first|simp -dsimp (maxSteps:=4000000) (maxDischargeDepth:=8) -implicitDefEqProofs [*,-Int.not_le,-Int.not_lt,amLt]|with_reducible (first|apply cB|apply iB)<;>intro _|intro _)
 | succ m ih =>
  intro i hi
  have hlt:i<ok.length:=by omega
  obtain ⟨i1,i2⟩:=ih (i+1) (by omega)
  have hb:(bcells ok)[i]?=some (.bool ok[i]):=by unfold bcells;rw [List.getElem?_map,List.getElem?_eq_getElem hlt];rfl
  have hb2:∀ hh:i<(bcells ok).length,(bcells ok)[i] = .bool ok[i]:=fun hh=>(List.getElem?_eq_some_iff.1 hb).2
  have hbl:=bcells_len ok
  have h1:(i:Int)<ok.length:=by omega
  have e3:¬ (ok.length:Int)≤i:=by omega
  have hw:=cw64 i (by omega)
  push_cast at i1 i2
  rw [List.drop_eq_getElem_cons hlt,List.all_cons]
  generalize ok[i]=z at *
  generalize (ok.drop (i+1)).all id=q at *
  generalize bcells ok=B at *
  clear ih hi hn
  cases z
  ·refine ⟨fun h=>(by simp at h),fun _=>?_⟩
   rw [Brun_loop]
   clear i1 i2
   repeat (any_goals first|simp -dsimp (maxSteps:=4000000) (maxDischargeDepth:=8) -implicitDefEqProofs [*,-Int.not_le,-Int.not_lt,amLt]|with_reducible (first|apply cB|apply iB)<;>intro _|intro _)
  ·refine ⟨fun h=>?_,fun h=>?_⟩
   ·replace i1:=i1 (by simpa using h)
    rw [Brun_loop]
    clear i2 h
    repeat (any_goals first|simp -dsimp (maxSteps:=4000000) (maxDischargeDepth:=8) -implicitDefEqProofs [*,-Int.not_le,-Int.not_lt,amLt]|with_reducible (first|apply cB|apply iB)<;>intro _|intro _)
   ·replace i2:=i2 (by simpa using h)
    rw [Brun_loop]
    clear i1 h
    repeat (any_goals first|simp -dsimp (maxSteps:=4000000) (maxDischargeDepth:=8) -implicitDefEqProofs [*,-Int.not_le,-Int.not_lt,amLt]|with_reducible (first|apply cB|apply iB)<;>intro _|intro _)
end
theorem erase_id {rows:List TR} (hcap:∀ w ∈ rows,w.cap = .no):rows.map eraseT=rows:=by
 conv=>rhs;rw [← List.map_id rows]
 apply List.map_congr_left
 intro w hw
 have hc:=hcap w hw
 cases w
 simp only at hc
 subst hc
 rfl
theorem rfrom_ok (H:Heap) (rows:List TR) (c0:Cap) (hcap:∀ w ∈ rows,w.cap = .no) (hsz:∀ w ∈ rows,w.tag.length≤1048576∧w.mem.length≤16777216∧∀ m ∈ w.mem,m.1.length≤1048576) (hlen:rows.length≤16777216) :
  ∃ G',Keeps H G'∧((AccR rows∧∃ C cap,G'[C]?=some (.cells [.is (rows.map trow) cap])∧Ccall tab 32 [.is (rows.map trow) c0] H=some (.tup [.mp C 0,.int .i64 0],G')) ∨
   Ccall tab 32 [.is (rows.map trow) c0] H=some (.tup [.nilp,.int .i64 30],G')):=by
 have hml:(rows.map trow).length=rows.length:=List.length_map ..
 by_cases hlo:rows.length<11
 ·refine ⟨H,Keeps.refl H,.inr ?_⟩
  have e1:(rows.length:Int)<11:=by omega
  have e1':¬ (11:Int)≤rows.length:=by omega
  refine Ccall_over rfl rfl rfl rfl ?_
  generalize rows.map trow=X at *
  clear hcap hsz hlen
  repeat (any_goals first|simp -dsimp (maxSteps:=4000000) (maxDischargeDepth:=8) -implicitDefEqProofs [*,-Int.not_le,-Int.not_lt,amLt]|with_reducible (first|apply cB|apply iB)<;>intro _|intro _)
 ·by_cases hhi:512<rows.length
  ·refine ⟨H,Keeps.refl H,.inr ?_⟩
   have e1:¬ (rows.length:Int)<11:=by omega
   have e1':(11:Int)≤rows.length:=by omega
   have e2:(512:Int)<rows.length:=by omega
   have e2':¬ (rows.length:Int)≤512:=by omega
   refine Ccall_over rfl rfl rfl rfl ?_
   generalize rows.map trow=X at *
   clear hcap hsz hlen
   repeat (any_goals first|simp -dsimp (maxSteps:=4000000) (maxDischargeDepth:=8) -implicitDefEqProofs [*,-Int.not_le,-Int.not_lt,amLt]|with_reducible (first|apply cB|apply iB)<;>intro _|intro _)
  ·have e1:¬ (rows.length:Int)<11:=by omega
   have e1':(11:Int)≤rows.length:=by omega
   have e2:¬ 512<(rows.length:Int):=by omega
   have e2':(rows.length:Int)≤512:=by omega
   have hn:rows.length≤512:=by omega
   obtain ⟨G1,cap1,k1,c1,b1⟩:=copy_ok (H ++ [.cells [.is (rows.map trow) c0]]) H.length rows c0 hn (fun w hw=>(hsz w hw).2.1) (by simp)
   rw [erase_id hcap] at c1
   have hl1:(H ++ [Blk.cells [.is (rows.map trow) c0]]).length=H.length+1:=by simp
   rw [hl1] at b1 c1
   have k0:Keeps H G1:=(Keeps.app H _).trans k1
   obtain ⟨Y,r1,r2⟩:=rows_loop (C:=H.length+1) (c:=cap1) hn hsz rows.length 0 G1 (by omega) c1
   simp only [Int.natCast_zero] at r1 r2
   by_cases hall:allS rows 0=true
   ·replace r1:=r1 hall
    have hspec:=allS_spec hall
    have hD:∀ r ∈ rows,r.mem.length≤16777216∧∀ d ∈ deps r,0≤d∧d<rows.length:=fun r hr=>by
     obtain ⟨i,hi⟩:=List.mem_iff_getElem?.1 hr
     exact ⟨(hsz r hr).2.1,shaped_deps hi (hspec i r hi).1⟩
    obtain ⟨ok',g1,g2⟩:=ground_ends (rows:=rows) (rows.length+1) (List.replicate rows.length false) (by simp) (by rw [List.count_replicate];simp)
    have c2:(G1 ++ Y)[H.length+1]?=some (.cells [.is (rows.map trow) cap1]):=rapp c1 _
    obtain ⟨G2,k2,s2,b2⟩:=grounded_ok hn hD c2 g1
    obtain ⟨o1,o2⟩:=okall_loop (G1 ++ Y).length rows.length true (.mp (H.length+1) 0) ok' (by omega) G2 s2 ok'.length 0 (by omega)
    rw [List.drop_zero] at o1 o2
    rw [g2,List.length_append] at o1 o2
    simp only [Int.natCast_zero] at o1 o2
    have kk:Keeps H G2:=k0.trans ((Keeps.app G1 Y).trans k2)
    cases hok:ok'.all id with
    | true =>
     replace o1:=o1 hok
     refine ⟨G2,kk,.inl ⟨⟨by omega,hn,hspec,_,ok',g1,fun i hi=>?_⟩,H.length+1,cap1,k2.cells c2,?_⟩⟩
     ·rw [List.getElem?_eq_getElem (by omega)]
      have:=List.all_eq_true.1 hok ok'[i] (List.getElem_mem (by omega))
      simp only [id] at this
      rw [this]
     ·refine Ccall_over rfl rfl rfl rfl ?_
      generalize rows.map trow=X at *
      clear hcap hsz hlen hD hspec hall r2 o2 g1 k1 c1 k0 c2 k2 s2 kk hok hlo hhi hn
      repeat (any_goals first|simp -dsimp (maxSteps:=4000000) (maxDischargeDepth:=8) -implicitDefEqProofs [*,-Int.not_le,-Int.not_lt,amLt,ap4]|with_reducible (first|apply cB|apply iB)<;>intro _|intro _)
    | false =>
     replace o2:=o2 hok
     refine ⟨G2,kk,.inr ?_⟩
     refine Ccall_over rfl rfl rfl rfl ?_
     generalize rows.map trow=X at *
     clear hcap hsz hlen hD hspec hall r2 o1 g1 k1 c1 k0 c2 k2 s2 kk hok hlo hhi hn
     repeat (any_goals first|simp -dsimp (maxSteps:=4000000) (maxDischargeDepth:=8) -implicitDefEqProofs [*,-Int.not_le,-Int.not_lt,amLt,ap4]|with_reducible (first|apply cB|apply iB)<;>intro _|intro _)
   ·replace r2:=r2 (by simpa using hall)
    refine ⟨G1 ++ Y,k0.trans (Keeps.app G1 Y),.inr ?_⟩
    refine Ccall_over rfl rfl rfl rfl ?_
    generalize rows.map trow=X at *
    clear hcap hsz hlen hall r1 k1 c1 k0 hlo hhi hn
    repeat (any_goals first|simp -dsimp (maxSteps:=4000000) (maxDischargeDepth:=8) -implicitDefEqProofs [*,-Int.not_le,-Int.not_lt,amLt,ap4]|with_reducible (first|apply cB|apply iB)<;>intro _|intro _)
structure BothAt (G:Heap) (rows:List TR) (T R M C:Nat) (cap:Cap) (es:Ents) (ck:Nat):Prop where
 acc:AccR rows
 tab:TabAt G T R M rows.length false (tabOf rows)
 map:G[M]?=some (.map es ck)
 ref:G[C]?=some (.cells [.is (rows.map trow) cap])
 keys:KeysOK es (tabOf rows)
theorem both_ok (H:Heap) (rows:List TR) (c0:Cap) (hcap:∀ w ∈ rows,w.cap = .no) (hsz:∀ w ∈ rows,w.tag.length≤1048576∧w.mem.length≤16777216∧∀ m ∈ w.mem,m.1.length≤1048576) (hlen:rows.length≤16777216) :
  ∃ G',Keeps H G'∧((∃ T R M C cap es ck,BothAt G' rows T R M C cap es ck∧Ccall tab 6 [.is (rows.map trow) c0] H=some (.tup [.mp T 0,.mp C 0,.bool true],G')) ∨
   Ccall tab 6 [.is (rows.map trow) c0] H=some (.tup [.nilp,.nilp,.bool false],G')):=by
 obtain ⟨G1,k1,h⟩:=rfrom_ok H rows c0 hcap hsz hlen
 rcases h with ⟨ha,C,cap,hC,hb⟩|hb
 ·have hn:=ha.hi
  obtain ⟨G2,cap2,k2,c2,b2⟩:=copy_ok (G1 ++ [.cells [.is (rows.map trow) c0]]) G1.length rows c0 hn (fun w hw=>(hsz w hw).2.1) (by simp)
  rw [erase_id hcap] at c2
  obtain ⟨Z,r,es,ck,hF,hK,b3⟩:=from_ok G2 rows cap2 hcap hsz (acc_imp ha)
  have htl:=tab_len hcap (acc_imp ha)
  have kk:Keeps G1 (G2 ++ Z):=(Keeps.app G1 _).trans (k2.trans (Keeps.app G2 Z))
  have ht:=hF.tab
  rw [htl] at ht
  refine ⟨G2 ++ Z,k1.trans kk,.inl ⟨G2.length+1,G2.length+r,G2.length,C,cap,es,ck,⟨ha,ht,?_,kk.cells hC,hK⟩,?_⟩⟩
  ·have h0:=(List.getElem?_eq_some_iff.1 hF.z0).1
   rw [List.getElem?_append_right (Nat.le_refl _),Nat.sub_self];exact hF.z0
  ·have hl1:(G1 ++ [Blk.cells [.is (rows.map trow) c0]]).length=G1.length+1:=by simp
   rw [hl1] at b2 c2
   refine Ccall_over rfl rfl rfl rfl ?_
   generalize rows.map trow=X at *
   clear hcap hsz hlen ha hF hK htl k1 k2 kk ht hn hC
   repeat (any_goals first|simp -dsimp (maxSteps:=4000000) (maxDischargeDepth:=8) -implicitDefEqProofs [*,-Int.not_le,-Int.not_lt,amLt,ap4]|with_reducible (first|apply cB|apply iB)<;>intro _|intro _)
 ·refine ⟨G1,k1,.inr ?_⟩
  refine Ccall_over rfl rfl rfl rfl ?_
  generalize rows.map trow=X at *
  clear hcap hsz hlen k1
  repeat (any_goals first|simp -dsimp (maxSteps:=4000000) (maxDischargeDepth:=8) -implicitDefEqProofs [*,-Int.not_le,-Int.not_lt,amLt]|with_reducible (first|apply cB|apply iB)<;>intro _|intro _)
end Go.Proofs.YtfhijkapcdmdnaaGreatDoor
