/- Conversions: both sides. -/
import Derived.Test.YtfhijkapcdmdnaaGreatDoorZf
import Derived.Test.YtfhijkapcdmdnaaGreatDoorAmW
namespace Go.Proofs.YtfhijkapcdmdnaaGreatDoor
open Go.AM
set_option maxRecDepth 20000
set_option maxHeartbeats 4000000
set_option linter.unusedSimpArgs false
set_option linter.unusedVariables false
set_option maxHeartbeats 4000000
def binA (t:List TR) (F:Nat) (op:List UInt8) (a b:Int):List AV × Int:=match getT t a,getT t b with
 | some ra,some rb=>binS t F op a b ra rb
 | _,_=>(opC 0 0 0 0 0,30)
theorem int_not_ptr {k:Int} (h:integerK k=true):k≠13:=by
 have hk:2≤k∧k≤12:=by unfold integerK at h;simpa using h
 omega
section
variable {t:List TR} {rho:Nat→Nat} {F T R M:Nat}
theorem bin_some (hx:Tbl t rho F) (H:Heap) (ht:TabAt H T R M t.length false t) (op:List UInt8) {a b:Int} {ra rb:TR} (ha:getT t a=some ra) (hb:getT t b=some rb) :
  ∃ Y,Ccall tab 17 [.mp T 0,.str op,.int .i64 a,.int .i64 b] H=some (.tup [.agg (binS t F op a b ra rb).1,.int .i64 (binS t F op a b ra rb).2],H ++ Y):=by
 have uT:=(List.getElem?_eq_some_iff.1 ht.t0).1
 have uR:=(List.getElem?_eq_some_iff.1 ht.r0).1
 have hlo:=hx.acc.lo
 have la:=hx.sz ra (List.mem_of_getElem? (getT_some ha).2)
 have lb:=hx.sz rb (List.mem_of_getElem? (getT_some hb).2)
 have hh:(hasS t a && hasS t b)=true:=by unfold hasS;rw [ha,hb];rfl
 have lk:=fun x=>look2g_ok (ht.app x) hlo a b .full
 rw [hh] at lk
 simp only [if_true] at lk
 have ia:=fun x=>aint_ok (ht.app x) ha la
 have ib:=fun x=>aint_ok (ht.app x) hb lb
 have pa:=fun x=>aptr_ok (ht.app x) ha la
 have pb:=fun x=>aptr_ok (ht.app x) hb lb
 obtain ⟨K,hK⟩:∃ K:Heap,K=H ++ [.cells (opC 0 0 0 0 0),.cells [.mp T 0]]:=⟨_,rfl⟩
 have lK:K.length=H.length+2:=by rw [hK];simp
 have kJ:∀ y,(K ++ y)[H.length+1]?=some (.cells [.mp T 0]):=fun y=>by rw [hK,List.append_assoc,List.getElem?_append_right (by omega),Nat.add_sub_cancel_left];rfl
 have kL:∀ y,(K ++ y)[H.length]?=some (.cells (opC 0 0 0 0 0)):=fun y=>by rw [hK,List.append_assoc,List.getElem?_append_right (by omega),Nat.sub_self];rfl
 have htK:∀ y,TabAt (K ++ y) T R M t.length false t:=fun y=>by rw [hK];exact (ht.app _).app _
 have hn:H.length+1≠T∧H.length+1≠R:=⟨by omega,by omega⟩
 have eK:∀ y v,(K ++ y).set H.length (.cells v)=H ++ ([.cells v,.cells [.mp T 0]] ++ y):=fun y v=>by
  rw [hK,List.append_assoc,List.set_append_right _ _ (Nat.le_refl _),Nat.sub_self];rfl
 cases ha1:integerK ra.kind with
 | true =>
  have ka:=int_not_ptr ha1
  rw [ha1] at ia
  cases hb1:integerK rb.kind with
  | true =>
   rw [hb1] at ib
   have h7:=fun E=>r17_7 hx (K ++ (intY T ra ++ intY T rb)) (htK _) op ha hb ha1 hb1 (kJ _) (kL _) hn (.fn 42 [.agg [.mp T 0]] []) E
   have ebs:binS t F op a b ra rb=arV op ra.kind rb.kind:=by unfold binS;rw [ha1,hb1];rfl
   rw [ebs]
   have h7':=h7
   refine ⟨[.cells (arV op ra.kind rb.kind).1,.cells [.mp T 0]] ++ (intY T ra ++ intY T rb ++ (kindY T ra ++ kindY T rb)),?_⟩
   rw [List.append_assoc K,eK,hK] at h7
   obtain ⟨o,p,q,r,s,ho⟩:=opC_of op (usual ra.kind rb.kind).1 (promote ra.kind (-1))
   have hv:(arV op ra.kind rb.kind).1=opC o p q r s:=ho
   rw [hv] at h7 ⊢
   generalize (arV op ra.kind rb.kind).2=er at *
   refine Ccall_over rfl rfl rfl rfl ?_
   unfold opC at *
   unfold f17c
   generalize ACode.region true f17r7 [8,9] 0=g7 at *
   generalize ACode.region true f17r11 [8,9] 0=g11 at *
   generalize ACode.region true f17r13 [8,9] 0=g13 at *
   generalize ACode.region true f17r15 [8,9] 0=g15 at *
   generalize intY T ra=IA at *
   generalize intY T rb=IB at *
   generalize kindY T ra=KA at *
   generalize kindY T rb=KB at *
   simp only [List.append_assoc,List.cons_append,List.nil_append] at *
   clear ht hx ha hb la lb uT uR hK lK kJ kL htK hn eK ha1 hb1 ka hh ebs ho hv h7' hlo
   repeat (any_goals first|simp -dsimp (maxSteps:=4000000) (maxDischargeDepth:=8) -implicitDefEqProofs [*,-Int.not_le,-Int.not_lt,amLt,ap4]|with_reducible (first|apply cB|apply iB)<;>intro _|intro _)
  | false =>
   rw [hb1] at ib
   by_cases kb:rb.kind=13
   ·rw [show decide (rb.kind=13)=true by simpa using kb] at pb
    rw [show decide (ra.kind=13)=false by simpa using ka] at pa
    have ebs:binS t F op a b ra rb=if op=[43] then (movV t F 1 7 b b rb.elem,begE t F rb.elem) else (opC 0 0 0 0 0,70):=by unfold binS;rw [ha1,hb1];simp [ka,kb]
    rw [ebs]
    by_cases co:op=[43]
    ·rw [if_pos co]
     obtain ⟨Y,h15⟩:=r17_15 hx (K ++ (intY T ra ++ intY T rb ++ intY T ra ++ intY T ra ++ intY T ra ++ intY T ra ++ intY T rb)) (htK _) hb (kJ _) (kL _) [(103,.bool true)]
     refine ⟨[.cells (movV t F 1 7 b b rb.elem),.cells [.mp T 0]] ++ (intY T ra ++ intY T rb ++ intY T ra ++ intY T ra ++ intY T ra ++ intY T ra ++ intY T rb ++ Y),?_⟩
     rw [List.append_assoc K,eK,hK] at h15
     have hmv:∃ o p q r s,movV t F 1 7 b b rb.elem=opC o p q r s:=by
      unfold movV;split<;>exact ⟨_,_,_,_,_,rfl⟩
     obtain ⟨o,p,q,r,s,ho⟩:=hmv
     rw [ho] at h15 ⊢
     generalize begE t F rb.elem=be at *
     subst co
     refine Ccall_over rfl rfl rfl rfl ?_
     unfold opC at *
     unfold f17c
     generalize ACode.region true f17r7 [8,9] 0=g7 at *
     generalize ACode.region true f17r11 [8,9] 0=g11 at *
     generalize ACode.region true f17r13 [8,9] 0=g13 at *
     generalize ACode.region true f17r15 [8,9] 0=g15 at *
     generalize intY T ra=IA at *
     generalize intY T rb=IB at *
     simp only [List.append_assoc,List.cons_append,List.nil_append] at *
     clear ht hx ha hb la lb uT uR hK lK kJ kL htK hn eK ha1 hb1 ka kb hh ebs ho hlo
     repeat (any_goals first|simp -dsimp (maxSteps:=4000000) (maxDischargeDepth:=8) -implicitDefEqProofs [*,-Int.not_le,-Int.not_lt,amLt,ap4]|with_reducible (first|apply cB|apply iB)<;>intro _|intro _)
    ·rw [if_neg co]
     refine ⟨[.cells (opC 0 0 0 0 0),.cells [.mp T 0]] ++ (intY T ra ++ intY T rb ++ intY T ra ++ intY T ra ++ intY T ra ++ intY T ra ++ intY T rb),?_⟩
     refine Ccall_over rfl rfl rfl rfl ?_
     unfold opC at *
     unfold f17c
     generalize ACode.region true f17r7 [8,9] 0=g7 at *
     generalize ACode.region true f17r11 [8,9] 0=g11 at *
     generalize ACode.region true f17r13 [8,9] 0=g13 at *
     generalize ACode.region true f17r15 [8,9] 0=g15 at *
     generalize intY T ra=IA at *
     generalize intY T rb=IB at *
     simp only [List.append_assoc,List.cons_append,List.nil_append] at *
     clear ht hx ha hb la lb uT uR hK lK kJ kL htK hn eK ha1 hb1 ka kb hh ebs hlo
     repeat (any_goals first|simp -dsimp (maxSteps:=4000000) (maxDischargeDepth:=8) -implicitDefEqProofs [*,-Int.not_le,-Int.not_lt,amLt,ap4]|with_reducible (first|apply cB|apply iB)<;>intro _|intro _)
   ·rw [show decide (rb.kind=13)=false by simpa using kb] at pb
    rw [show decide (ra.kind=13)=false by simpa using ka] at pa
    have ebs:binS t F op a b ra rb=(opC 0 0 0 0 0,70):=by unfold binS;rw [ha1,hb1];simp [ka,kb]
    rw [ebs]
    refine ⟨[.cells (opC 0 0 0 0 0),.cells [.mp T 0]] ++ (intY T ra ++ intY T rb ++ intY T ra ++ intY T ra ++ intY T ra ++ intY T ra ++ intY T rb),?_⟩
    refine Ccall_over rfl rfl rfl rfl ?_
    unfold opC at *
    unfold f17c
    generalize ACode.region true f17r7 [8,9] 0=g7 at *
    generalize ACode.region true f17r11 [8,9] 0=g11 at *
    generalize ACode.region true f17r13 [8,9] 0=g13 at *
    generalize ACode.region true f17r15 [8,9] 0=g15 at *
    generalize intY T ra=IA at *
    generalize intY T rb=IB at *
    simp only [List.append_assoc,List.cons_append,List.nil_append] at *
    clear ht hx ha hb la lb uT uR hK lK kJ kL htK hn eK ha1 hb1 ka kb hh ebs hlo
    repeat (any_goals first|simp -dsimp (maxSteps:=4000000) (maxDischargeDepth:=8) -implicitDefEqProofs [*,-Int.not_le,-Int.not_lt,amLt,ap4]|with_reducible (first|apply cB|apply iB)<;>intro _|intro _)
 | false =>
  rw [ha1] at ia
  by_cases ka:ra.kind=13
  ·rw [show decide (ra.kind=13)=true by simpa using ka] at pa
   by_cases kb:rb.kind=13
   ·rw [show decide (rb.kind=13)=true by simpa using kb] at pb
    have ebs:binS t F op a b ra rb=ptrS t F op a b ra rb:=by unfold binS;rw [ha1];simp [ka,kb]
    rw [ebs]
    obtain ⟨Y,hp⟩:=ptr_ok hx (K ++ (intY T ra ++ intY T ra ++ intY T rb)) (htK _) op ha hb
    refine ⟨[.cells (ptrS t F op a b ra rb).1,.cells [.mp T 0]] ++ (intY T ra ++ intY T ra ++ intY T rb ++ Y),?_⟩
    have hpo:∃ o p q r s,(ptrS t F op a b ra rb).1=opC o p q r s:=by
     have hm:∃ o p q r s,movV t F 2 a a 7 ra.elem=opC o p q r s:=by unfold movV;split<;>exact ⟨_,_,_,_,_,rfl⟩
     have key:IsOp (ptrS t F op a b ra rb):=by
      unfold ptrS
      refine isOp_ite (isOp_ite hm ⟨_,_,_,_,_,rfl⟩) ?_
      repeat (refine isOp_ite (isOp_ite ⟨_,_,_,_,_,rfl⟩ ⟨_,_,_,_,_,rfl⟩) ?_)
      exact ⟨_,_,_,_,_,rfl⟩
     exact key
    obtain ⟨o,p,q,r,s,ho⟩:=hpo
    rw [hK] at hp
    rw [ho] at hp ⊢
    generalize (ptrS t F op a b ra rb).2=er at *
    refine Ccall_over rfl rfl rfl rfl ?_
    unfold opC at *
    unfold f17c
    generalize ACode.region true f17r7 [8,9] 0=g7 at *
    generalize ACode.region true f17r11 [8,9] 0=g11 at *
    generalize ACode.region true f17r13 [8,9] 0=g13 at *
    generalize ACode.region true f17r15 [8,9] 0=g15 at *
    generalize intY T ra=IA at *
    generalize intY T rb=IB at *
    simp only [List.append_assoc,List.cons_append,List.nil_append] at *
    clear ht hx ha hb la lb uT uR hK lK kJ kL htK hn eK ha1 ka kb hh ebs ho hlo
    repeat (any_goals first|simp -dsimp (maxSteps:=4000000) (maxDischargeDepth:=8) -implicitDefEqProofs [*,-Int.not_le,-Int.not_lt,amLt,ap4]|with_reducible (first|apply cB|apply iB)<;>intro _|intro _)
   ·rw [show decide (rb.kind=13)=false by simpa using kb] at pb
    cases hb1:integerK rb.kind with
    | true =>
     rw [hb1] at ib
     have ebs:binS t F op a b ra rb=if op=[43] then (movV t F 1 a 7 a ra.elem,begE t F ra.elem) else if op=[45] then (movV t F 2 a 7 a ra.elem,begE t F ra.elem) else (opC 0 0 0 0 0,70):=by unfold binS;rw [ha1,hb1];simp [ka,kb]
     rw [ebs]
     by_cases co:op=[43]
     ·rw [if_pos co]
      obtain ⟨Y,h11⟩:=r17_mov 11 (.inl rfl) hx (K ++ (intY T ra ++ intY T ra ++ intY T rb ++ intY T ra ++ intY T rb)) (htK _) ha (kJ _) (kL _) (.str [43]) (.int .i64 b) (.fn 42 [.agg [.mp T 0]] []) [(61,.bool true)]
      simp only [if_true] at h11
      refine ⟨[.cells (movV t F 1 a 7 a ra.elem),.cells [.mp T 0]] ++ (intY T ra ++ intY T ra ++ intY T rb ++ intY T ra ++ intY T rb ++ Y),?_⟩
      rw [List.append_assoc K,eK,hK] at h11
      have hmv:∃ o p q r s,movV t F 1 a 7 a ra.elem=opC o p q r s:=by
       unfold movV;split<;>exact ⟨_,_,_,_,_,rfl⟩
      obtain ⟨o,p,q,r,s,ho⟩:=hmv
      rw [ho] at h11 ⊢
      generalize begE t F ra.elem=be at *
      subst co
      refine Ccall_over rfl rfl rfl rfl ?_
      unfold opC at *
      unfold f17c
      generalize ACode.region true f17r7 [8,9] 0=g7 at *
      generalize ACode.region true f17r11 [8,9] 0=g11 at *
      generalize ACode.region true f17r13 [8,9] 0=g13 at *
      generalize ACode.region true f17r15 [8,9] 0=g15 at *
      generalize intY T ra=IA at *
      generalize intY T rb=IB at *
      simp only [List.append_assoc,List.cons_append,List.nil_append] at *
      clear ht hx ha hb la lb uT uR hK lK kJ kL htK hn eK ha1 hb1 ka kb hh ebs ho hlo
      repeat (any_goals first|simp -dsimp (maxSteps:=4000000) (maxDischargeDepth:=8) -implicitDefEqProofs [*,-Int.not_le,-Int.not_lt,amLt,ap4]|with_reducible (first|apply cB|apply iB)<;>intro _|intro _)
     ·rw [if_neg co]
      by_cases co2:op=[45]
      ·rw [if_pos co2]
       obtain ⟨Y,h13⟩:=r17_mov 13 (.inr rfl) hx (K ++ (intY T ra ++ intY T ra ++ intY T rb ++ intY T ra ++ intY T rb ++ intY T ra ++ intY T rb)) (htK _) ha (kJ _) (kL _) (.str [45]) (.int .i64 b) (.fn 42 [.agg [.mp T 0]] []) [(82,.bool true)]
       simp only [show ((13:Nat)=11)=False by decide,if_false] at h13
       refine ⟨[.cells (movV t F 2 a 7 a ra.elem),.cells [.mp T 0]] ++ (intY T ra ++ intY T ra ++ intY T rb ++ intY T ra ++ intY T rb ++ intY T ra ++ intY T rb ++ Y),?_⟩
       rw [List.append_assoc K,eK,hK] at h13
       have hmv:∃ o p q r s,movV t F 2 a 7 a ra.elem=opC o p q r s:=by
        unfold movV;split<;>exact ⟨_,_,_,_,_,rfl⟩
       obtain ⟨o,p,q,r,s,ho⟩:=hmv
       rw [ho] at h13 ⊢
       generalize begE t F ra.elem=be at *
       subst co2
       refine Ccall_over rfl rfl rfl rfl ?_
       unfold opC at *
       unfold f17c
       generalize ACode.region true f17r7 [8,9] 0=g7 at *
       generalize ACode.region true f17r11 [8,9] 0=g11 at *
       generalize ACode.region true f17r13 [8,9] 0=g13 at *
       generalize ACode.region true f17r15 [8,9] 0=g15 at *
       generalize intY T ra=IA at *
       generalize intY T rb=IB at *
       simp only [List.append_assoc,List.cons_append,List.nil_append] at *
       clear ht hx ha hb la lb uT uR hK lK kJ kL htK hn eK ha1 hb1 ka kb hh ebs ho hlo co
       repeat (any_goals first|simp -dsimp (maxSteps:=4000000) (maxDischargeDepth:=8) -implicitDefEqProofs [*,-Int.not_le,-Int.not_lt,amLt,ap4]|with_reducible (first|apply cB|apply iB)<;>intro _|intro _)
      ·rw [if_neg co2]
       refine ⟨[.cells (opC 0 0 0 0 0),.cells [.mp T 0]] ++ (intY T ra ++ intY T ra ++ intY T rb ++ intY T ra ++ intY T rb ++ intY T ra ++ intY T rb ++ intY T ra),?_⟩
       refine Ccall_over rfl rfl rfl rfl ?_
       unfold opC at *
       unfold f17c
       generalize ACode.region true f17r7 [8,9] 0=g7 at *
       generalize ACode.region true f17r11 [8,9] 0=g11 at *
       generalize ACode.region true f17r13 [8,9] 0=g13 at *
       generalize ACode.region true f17r15 [8,9] 0=g15 at *
       generalize intY T ra=IA at *
       generalize intY T rb=IB at *
       simp only [List.append_assoc,List.cons_append,List.nil_append] at *
       clear ht hx ha hb la lb uT uR hK lK kJ kL htK hn eK ha1 hb1 ka kb hh ebs hlo
       repeat (any_goals first|simp -dsimp (maxSteps:=4000000) (maxDischargeDepth:=8) -implicitDefEqProofs [*,-Int.not_le,-Int.not_lt,amLt,ap4]|with_reducible (first|apply cB|apply iB)<;>intro _|intro _)
    | false =>
     rw [hb1] at ib
     have ebs:binS t F op a b ra rb=(opC 0 0 0 0 0,70):=by unfold binS;rw [ha1,hb1];simp [ka,kb]
     rw [ebs]
     refine ⟨[.cells (opC 0 0 0 0 0),.cells [.mp T 0]] ++ (intY T ra ++ intY T ra ++ intY T rb ++ intY T ra ++ intY T rb ++ intY T ra ++ intY T rb ++ intY T ra),?_⟩
     refine Ccall_over rfl rfl rfl rfl ?_
     unfold opC at *
     unfold f17c
     generalize ACode.region true f17r7 [8,9] 0=g7 at *
     generalize ACode.region true f17r11 [8,9] 0=g11 at *
     generalize ACode.region true f17r13 [8,9] 0=g13 at *
     generalize ACode.region true f17r15 [8,9] 0=g15 at *
     generalize intY T ra=IA at *
     generalize intY T rb=IB at *
     simp only [List.append_assoc,List.cons_append,List.nil_append] at *
     clear ht hx ha hb la lb uT uR hK lK kJ kL htK hn eK ha1 hb1 ka kb hh ebs hlo
     repeat (any_goals first|simp -dsimp (maxSteps:=4000000) (maxDischargeDepth:=8) -implicitDefEqProofs [*,-Int.not_le,-Int.not_lt,amLt,ap4]|with_reducible (first|apply cB|apply iB)<;>intro _|intro _)
  ·rw [show decide (ra.kind=13)=false by simpa using ka] at pa
   have ebs:binS t F op a b ra rb=(opC 0 0 0 0 0,70):=by unfold binS;rw [ha1];simp [ka]
   rw [ebs]
   refine ⟨[.cells (opC 0 0 0 0 0),.cells [.mp T 0]] ++ (intY T ra ++ intY T ra ++ intY T ra ++ intY T ra ++ intY T ra),?_⟩
   refine Ccall_over rfl rfl rfl rfl ?_
   unfold opC at *
   unfold f17c
   generalize ACode.region true f17r7 [8,9] 0=g7 at *
   generalize ACode.region true f17r11 [8,9] 0=g11 at *
   generalize ACode.region true f17r13 [8,9] 0=g13 at *
   generalize ACode.region true f17r15 [8,9] 0=g15 at *
   generalize intY T ra=IA at *
   simp only [List.append_assoc,List.cons_append,List.nil_append] at *
   clear ht hx ha hb la lb uT uR hK lK kJ kL htK hn eK ha1 ka hh ebs hlo ib pb
   repeat (any_goals first|simp -dsimp (maxSteps:=4000000) (maxDischargeDepth:=8) -implicitDefEqProofs [*,-Int.not_le,-Int.not_lt,amLt,ap4]|with_reducible (first|apply cB|apply iB)<;>intro _|intro _)
end
def unS (op:List UInt8) (r:TR):Int × Int :=
 if op=[33]∧1<r.kind∧r.kind≤13 then (7,0) else if (op=[43]∨op=[45]∨op=[126])∧integerK r.kind=true then (promote r.kind (-1) - 1,0) else (0,70)
def unA (t:List TR) (op:List UInt8) (a:Int):Int × Int:=match getT t a with|some r=>unS op r|none=>(0,30)
def condS (a b:Int) (ra rb:TR):Int × Int :=
 if (integerK ra.kind && integerK rb.kind)=true then ((usual ra.kind rb.kind).1 - 1,0)
 else if a=b∧(ra.kind=13∨ra.kind=1∨ra.kind=15∨ra.kind=16) then (a,0)
 else if anyB ra=true∧rb.kind=13 then (a,0) else if ra.kind=13∧anyB rb=true then (b,0) else (0,70)
def condA (t:List TR) (a b:Int):Int × Int:=match getT t a,getT t b with|some ra,some rb=>condS a b ra rb|_,_=>(0,30)
section
variable {t:List TR} {rho:Nat→Nat} {F T R M:Nat}
theorem scalar_ok (H:Heap) (ht:TabAt H T R M t.length false t) {a:Int} {r:TR} (hg:getT t a=some r):Ccall tab 56 [.mp T 0,.int .i64 a] H=some (.bool (decide (1<r.kind) && decide (r.kind≤13)),H):=by
 have hk:=kind_ok ht.t0 ht.r0 a
 have e:kindS t a=r.kind:=by unfold kindS;rw [hg]
 rw [e] at hk
 refine Ccall_over rfl rfl rfl rfl ?_
 generalize r.kind=k at *
 clear ht hg e
 by_cases c1:1<k
 ·have c2:2≤k:=by omega
  repeat (any_goals first|simp -dsimp (maxSteps:=4000000) (maxDischargeDepth:=8) -implicitDefEqProofs [*,-Int.not_le,-Int.not_lt,amLt]|with_reducible (first|apply cB|apply iB)<;>intro _|intro _)
 ·have c2:¬ 2≤k:=by omega
  repeat (any_goals first|simp -dsimp (maxSteps:=4000000) (maxDischargeDepth:=8) -implicitDefEqProofs [*,-Int.not_le,-Int.not_lt,amLt]|with_reducible (first|apply cB|apply iB)<;>intro _|intro _)
theorem un_ok (hx:Tbl t rho F) (H:Heap) (ht:TabAt H T R M t.length false t) (op:List UInt8) (a:Int) :
  ∃ Y,Ccall tab 19 [.mp T 0,.str op,.int .i64 a] H=some (.tup [.int .i64 (unA t op a).1,.int .i64 (unA t op a).2],H ++ Y):=by
 have hlo:=hx.acc.lo
 have lk:=fun x=>look1g_ok (ht.app x) hlo a .full
 unfold unA
 cases hg:getT t a with
 | none =>
  have hh:hasS t a=false:=by unfold hasS;rw [hg];rfl
  rw [hh] at lk
  simp only [Bool.false_eq_true,if_false] at lk
  refine ⟨[],?_⟩
  have lk0:=lk []
  rw [List.append_nil] at lk0 ⊢
  refine Ccall_over rfl rfl rfl rfl ?_
  clear lk hx ht hlo hg hh
  repeat (any_goals first|simp -dsimp (maxSteps:=4000000) (maxDischargeDepth:=8) -implicitDefEqProofs [*,-Int.not_le,-Int.not_lt,amLt]|with_reducible (first|apply cB|apply iB)<;>intro _|intro _)
 | some r =>
  have hh:hasS t a=true:=by unfold hasS;rw [hg];rfl
  rw [hh] at lk
  simp only [if_true] at lk
  have lr:=hx.sz r (List.mem_of_getElem? (getT_some hg).2)
  have lk0:=lk []
  rw [List.append_nil] at lk0
  have hsc:=fun x=>scalar_ok (H ++ x) (ht.app x) hg
  have ia:=fun x=>aint_ok (ht.app x) hg lr
  have ka:=fun x=>akind_ok (ht.app x) hg lr
  have h7:=fun h=>whole49_ok h
  have hp:=fun h=>promote_ok h r.kind (-1)
  dsimp only
  unfold unS
  by_cases c1:op=[33]
  ·subst c1
   by_cases c2:1<r.kind∧r.kind≤13
   ·rw [if_pos ⟨rfl,c2⟩]
    obtain ⟨c3,c4⟩:=c2
    refine ⟨[.cells [.mp T 0]],?_⟩
    refine Ccall_over rfl rfl rfl rfl ?_
    rw [show (decide (1<r.kind) && decide (r.kind≤13))=true by simp [c3,c4]] at hsc
    clear hx ht hlo hg hh lr ia ka hp c3 c4
    repeat (any_goals first|simp -dsimp (maxSteps:=4000000) (maxDischargeDepth:=8) -implicitDefEqProofs [*,-Int.not_le,-Int.not_lt,amLt,ap4]|with_reducible (first|apply cB|apply iB)<;>intro _|intro _)
   ·rw [if_neg (fun q=>c2 q.2),if_neg (by simp)]
    refine ⟨[.cells [.mp T 0]],?_⟩
    refine Ccall_over rfl rfl rfl rfl ?_
    rw [show (decide (1<r.kind) && decide (r.kind≤13))=false by
     cases hq:(decide (1<r.kind) && decide (r.kind≤13)) with
     | false=>rfl
     | true=>simp only [Bool.and_eq_true,decide_eq_true_eq] at hq;exact absurd hq c2] at hsc
    clear hx ht hlo hg hh lr ia ka hp c2
    repeat (any_goals first|simp -dsimp (maxSteps:=4000000) (maxDischargeDepth:=8) -implicitDefEqProofs [*,-Int.not_le,-Int.not_lt,amLt,ap4]|with_reducible (first|apply cB|apply iB)<;>intro _|intro _)
  ·rw [if_neg (fun q=>c1 q.1)]
   by_cases c2:op=[43]∨op=[45]∨op=[126]
   ·cases ci:integerK r.kind with
    | true =>
     rw [ci] at ia
     rw [if_pos ⟨c2,rfl⟩]
     have hpr:=promote_in2 ci
     have hrk:=fun h=>rowk_ok h (promote r.kind (-1)) hpr
     generalize promote r.kind (-1)=pk at *
     refine ⟨[.cells [.mp T 0]] ++ (intY T r ++ kindY T r),?_⟩
     refine Ccall_over rfl rfl rfl rfl ?_
     generalize intY T r=IA at *
     generalize kindY T r=KA at *
     simp only [List.append_assoc,List.cons_append,List.nil_append] at *
     clear hx ht hlo hg hh lr hsc ci hpr
     rcases c2 with rfl|rfl|rfl
     ·repeat (any_goals first|simp -dsimp (maxSteps:=4000000) (maxDischargeDepth:=8) -implicitDefEqProofs [*,-Int.not_le,-Int.not_lt,amLt,ap4]|with_reducible (first|apply cB|apply iB)<;>intro _|intro _)
     ·repeat (any_goals first|simp -dsimp (maxSteps:=4000000) (maxDischargeDepth:=8) -implicitDefEqProofs [*,-Int.not_le,-Int.not_lt,amLt,ap4]|with_reducible (first|apply cB|apply iB)<;>intro _|intro _)
     ·repeat (any_goals first|simp -dsimp (maxSteps:=4000000) (maxDischargeDepth:=8) -implicitDefEqProofs [*,-Int.not_le,-Int.not_lt,amLt,ap4]|with_reducible (first|apply cB|apply iB)<;>intro _|intro _)
    | false =>
     rw [ci] at ia
     rw [if_neg (fun q=>by cases q.2)]
     refine ⟨[.cells [.mp T 0]] ++ intY T r,?_⟩
     refine Ccall_over rfl rfl rfl rfl ?_
     generalize intY T r=IA at *
     simp only [List.append_assoc,List.cons_append,List.nil_append] at *
     clear hx ht hlo hg hh lr hsc ci ka hp
     rcases c2 with rfl|rfl|rfl
     ·repeat (any_goals first|simp -dsimp (maxSteps:=4000000) (maxDischargeDepth:=8) -implicitDefEqProofs [*,-Int.not_le,-Int.not_lt,amLt,ap4]|with_reducible (first|apply cB|apply iB)<;>intro _|intro _)
     ·repeat (any_goals first|simp -dsimp (maxSteps:=4000000) (maxDischargeDepth:=8) -implicitDefEqProofs [*,-Int.not_le,-Int.not_lt,amLt,ap4]|with_reducible (first|apply cB|apply iB)<;>intro _|intro _)
     ·repeat (any_goals first|simp -dsimp (maxSteps:=4000000) (maxDischargeDepth:=8) -implicitDefEqProofs [*,-Int.not_le,-Int.not_lt,amLt,ap4]|with_reducible (first|apply cB|apply iB)<;>intro _|intro _)
   ·rw [if_neg (fun q=>c2 q.1)]
    simp only [not_or] at c2
    obtain ⟨c3,c4,c5⟩:=c2
    refine ⟨[.cells [.mp T 0]],?_⟩
    refine Ccall_over rfl rfl rfl rfl ?_
    clear hx ht hlo hg hh lr hsc ia ka hp
    repeat (any_goals first|simp -dsimp (maxSteps:=4000000) (maxDischargeDepth:=8) -implicitDefEqProofs [*,-Int.not_le,-Int.not_lt,amLt,ap4]|with_reducible (first|apply cB|apply iB)<;>intro _|intro _)
theorem r21_6 (hx:Tbl t rho F) (K:Heap) (ht:TabAt K T R M t.length false t) {a b:Int} {ra rb:TR} (ha:getT t a=some ra) (hb:getT t b=some rb) {J:Nat} (hJ:K[J]?=some (.cells [.mp T 0])) (hn:J≠T∧J≠R) (E:List (Nat × AV)) :
  Brun tab 88 (.region true f21r6 [10,11] 0) (ofL ((1,.int .i64 a) :: (2,.int .i64 b) :: (9,.mp J 0) :: E)) K=some (.normal,ofL [(10,.int .i64 (usual ra.kind rb.kind).1),(11,.int .i64 (usual ra.kind rb.kind).2)],K ++ (kindY T ra ++ kindY T rb)):=by
 have la:=hx.sz ra (List.mem_of_getElem? (getT_some ha).2)
 have lb:=hx.sz rb (List.mem_of_getElem? (getT_some hb).2)
 have lJ:=(List.getElem?_eq_some_iff.1 hJ).1
 obtain ⟨w1,a1,a2⟩:=beside1 hJ (akind_ok (ht.free hn.1 hn.2) ha la)
 obtain ⟨w2,a3⟩:=acall_of (akind_ok (ht.app (kindY T ra)) hb lb)
 obtain ⟨w3,a4⟩:=acall_of (usual_ok (K ++ (kindY T ra ++ kindY T rb)) ra.kind rb.kind)
 rw [List.append_assoc] at a3
 have fJ:∀ x hh,(K ++ x)[J]'hh=_:=fun x hh=>(List.getElem?_eq_some_iff.1 (rapp hJ x)).2
 have fJ0:∀ hh,K[J]'hh=_:=fun hh=>(List.getElem?_eq_some_iff.1 hJ).2
 have gJ:=fun x=>rapp hJ x
 have m1:∀ x:Nat,J<K.length+x:=fun x=>by omega
 refine Brun_told ?_
 generalize kindY T ra=YA at *
 generalize kindY T rb=YB at *
 generalize (usual ra.kind rb.kind).1=u1 at *
 generalize (usual ra.kind rb.kind).2=u2 at *
 clear ht hx ha hb la lb hn
 simp [*,f21r6,f21q6,asteps,astep,stepRun,aop,HC.run,HC.rds,HC.wrs,HC.ofOpt,Blk.isFree,wanted,put,cellsOf,isSc,splice,cget,slen,ssz,scells,roomy,rowsz,Cap.tight,drawOK,freeOf,Rec.indep,disj,apart,AOper.looks,AOp.tmps,AO.tmps,pTmps,oTmps,Nat.testBit,ofL,isPure,tab,f44,f9,fillp,imm,imm.immL,abin]
end
section
variable {t:List TR} {rho:Nat→Nat} {F T R M:Nat}
theorem cond_some (hx:Tbl t rho F) (H:Heap) (ht:TabAt H T R M t.length false t) {a b:Int} {ra rb:TR} (ha:getT t a=some ra) (hb:getT t b=some rb) :
  ∃ Y,Ccall tab 21 [.mp T 0,.int .i64 a,.int .i64 b] H=some (.tup [.int .i64 (condS a b ra rb).1,.int .i64 (condS a b ra rb).2],H ++ Y):=by
 have uT:=(List.getElem?_eq_some_iff.1 ht.t0).1
 have uR:=(List.getElem?_eq_some_iff.1 ht.r0).1
 have hlo:=hx.acc.lo
 have la:=hx.sz ra (List.mem_of_getElem? (getT_some ha).2)
 have lb:=hx.sz rb (List.mem_of_getElem? (getT_some hb).2)
 have hh:(hasS t a && hasS t b)=true:=by unfold hasS;rw [ha,hb];rfl
 have lk:=fun x=>look2g_ok (ht.app x) hlo a b .full
 rw [hh] at lk
 simp only [if_true] at lk
 have lk0:=lk []
 rw [List.append_nil] at lk0
 have ia:=fun x=>aint_ok (ht.app x) ha la
 have ib:=fun x=>aint_ok (ht.app x) hb lb
 have pa:=fun x=>aptr_ok (ht.app x) ha la
 have pb:=fun x=>aptr_ok (ht.app x) hb lb
 have ya:=fun x=>any_ok (ht.app x) ha la
 have yb:=fun x=>any_ok (ht.app x) hb lb
 have ka:=fun x=>akind_ok (ht.app x) ha la
 obtain ⟨K,hK⟩:∃ K:Heap,K=H ++ [.cells [.mp T 0]]:=⟨_,rfl⟩
 have lK:K.length=H.length+1:=by rw [hK];simp
 have kJ:∀ y,(K ++ y)[H.length]?=some (.cells [.mp T 0]):=fun y=>by rw [hK,List.append_assoc,List.getElem?_append_right (by omega),Nat.sub_self];rfl
 have htK:∀ y,TabAt (K ++ y) T R M t.length false t:=fun y=>by rw [hK];exact (ht.app _).app _
 have hn:H.length≠T∧H.length≠R:=⟨by omega,by omega⟩
 unfold condS
 by_cases cii:(integerK ra.kind && integerK rb.kind)=true
 ·rw [if_pos cii]
  simp only [Bool.and_eq_true] at cii
  obtain ⟨i1,i2⟩:=cii
  have h6:=fun E=>r21_6 hx (K ++ (intY T ra ++ intY T rb)) (htK _) ha hb (kJ _) hn E
  obtain ⟨u1,u2,u3⟩:=usual_in i1 i2
  have hrk:=fun h=>rowk_ok h (usual ra.kind rb.kind).1 ⟨u2,u3⟩
  have u4:(usual ra.kind rb.kind).2=0:=by rw [u1]
  rw [u4] at h6
  generalize (usual ra.kind rb.kind).1=uu at *
  rw [i1] at ia
  rw [i2] at ib
  refine ⟨[.cells [.mp T 0]] ++ (intY T ra ++ intY T rb ++ (kindY T ra ++ kindY T rb)),?_⟩
  rw [hK] at h6
  refine Ccall_over rfl rfl rfl rfl ?_
  unfold f21c
  generalize ACode.region true f21r6 [10,11] 0=g6 at *
  generalize intY T ra=IA at *
  generalize intY T rb=IB at *
  generalize kindY T ra=KA at *
  generalize kindY T rb=KB at *
  simp only [List.append_assoc,List.cons_append,List.nil_append] at *
  clear ht hx ha hb la lb uT uR hK lK kJ htK hn hh hlo u1 u2 u3 u4 i1 i2 pa pb ya yb ka
  repeat (any_goals first|simp -dsimp (maxSteps:=4000000) (maxDischargeDepth:=8) -implicitDefEqProofs [*,-Int.not_le,-Int.not_lt,amLt,ap4]|with_reducible (first|apply cB|apply iB)<;>intro _|intro _)
 ·rw [if_neg cii]
  have hcii:(integerK ra.kind && integerK rb.kind)=false:=by simpa using cii
  by_cases cs:a=b∧(ra.kind=13∨ra.kind=1∨ra.kind=15∨ra.kind=16)
  ·rw [if_pos cs]
   obtain ⟨cab,ck⟩:=cs
   have e:ra=rb:=by subst cab;rw [ha] at hb;exact Option.some.inj hb
   subst e
   subst cab
   have q0:integerK ra.kind=false:=by simpa using hcii
   rw [q0] at ia
   refine ⟨[.cells [.mp T 0]] ++ (intY T ra ++ kindY T ra),?_⟩
   refine Ccall_over rfl rfl rfl rfl ?_
   unfold f21c
   generalize ACode.region true f21r6 [10,11] 0=g6 at *
   generalize intY T ra=IA at *
   generalize kindY T ra=KA at *
   generalize ra.kind=k at *
   simp only [List.append_assoc,List.cons_append,List.nil_append] at *
   clear ht hx ha hb la lb uT uR hK lK kJ htK hn hh hlo hcii cii q0 pa pb ya yb ib
   rcases ck with rfl|rfl|rfl|rfl
   ·repeat (any_goals first|simp -dsimp (maxSteps:=4000000) (maxDischargeDepth:=8) -implicitDefEqProofs [*,-Int.not_le,-Int.not_lt,amLt,ap4]|with_reducible (first|apply cB|apply iB)<;>intro _|intro _)
   ·repeat (any_goals first|simp -dsimp (maxSteps:=4000000) (maxDischargeDepth:=8) -implicitDefEqProofs [*,-Int.not_le,-Int.not_lt,amLt,ap4]|with_reducible (first|apply cB|apply iB)<;>intro _|intro _)
   ·repeat (any_goals first|simp -dsimp (maxSteps:=4000000) (maxDischargeDepth:=8) -implicitDefEqProofs [*,-Int.not_le,-Int.not_lt,amLt,ap4]|with_reducible (first|apply cB|apply iB)<;>intro _|intro _)
   ·repeat (any_goals first|simp -dsimp (maxSteps:=4000000) (maxDischargeDepth:=8) -implicitDefEqProofs [*,-Int.not_le,-Int.not_lt,amLt,ap4]|with_reducible (first|apply cB|apply iB)<;>intro _|intro _)
  ·rw [if_neg cs]
   by_cases cab:a=b
   ·have e:ra=rb:=by subst cab;rw [ha] at hb;exact Option.some.inj hb
    subst e
    subst cab
    have q0:integerK ra.kind=false:=by simpa using hcii
    rw [q0] at ia
    simp only [true_and,not_or] at cs
    obtain ⟨k1,k2,k3,k4⟩:=cs
    have e0:anyB ra=false:=by unfold anyB;simp [k1]
    rw [e0] at ya
    rw [if_neg (by rw [e0];simp),if_neg (by simp [k1])]
    rw [show decide (ra.kind=13)=false by simpa using k1] at pa
    refine ⟨[.cells [.mp T 0]] ++ (intY T ra ++ (kindY T ra ++ (anyY T ra ++ intY T ra))),?_⟩
    refine Ccall_over rfl rfl rfl rfl ?_
    unfold f21c
    generalize ACode.region true f21r6 [10,11] 0=g6 at *
    generalize intY T ra=IA at *
    generalize kindY T ra=KA at *
    generalize anyY T ra=YA at *
    generalize ra.kind=k at *
    simp only [List.append_assoc,List.cons_append,List.nil_append] at *
    clear ht hx ha hb la lb uT uR hK lK kJ htK hn hh hlo hcii cii q0 pb yb ib e0
    repeat (any_goals first|simp -dsimp (maxSteps:=4000000) (maxDischargeDepth:=8) -implicitDefEqProofs [*,-Int.not_le,-Int.not_lt,amLt,ap4]|with_reducible (first|apply cB|apply iB)<;>intro _|intro _)
   ·have er:(if anyB ra=true∧rb.kind=13 then (a,(0:Int)) else if ra.kind=13∧anyB rb=true then (b,0) else (0,70))=if (anyB ra && decide (rb.kind=13))=true then (a,0) else if (decide (ra.kind=13) && anyB rb)=true then (b,0) else (0,70):=by simp
    rw [er]
    refine ⟨[.cells [.mp T 0]] ++ (intY T ra ++ ((if integerK ra.kind=true then intY T rb else []) ++ (kindY T ra ++ (anyY T ra ++ ((if anyB ra=true then intY T rb else []) ++ (if (anyB ra && decide (rb.kind=13))=true then [] else intY T ra ++ (if decide (ra.kind=13)=true then anyY T rb else []))))))),?_⟩
    refine Ccall_over rfl rfl rfl rfl ?_
    unfold f21c
    generalize ACode.region true f21r6 [10,11] 0=g6 at *
    generalize intY T ra=IA at *
    generalize intY T rb=IB at *
    generalize kindY T ra=KA at *
    generalize anyY T ra=YA at *
    generalize anyY T rb=YB at *
    generalize integerK ra.kind=q at *
    generalize integerK rb.kind=w at *
    generalize anyB ra=e at *
    generalize anyB rb=f at *
    generalize decide (ra.kind=13)=p at *
    generalize decide (rb.kind=13)=r at *
    generalize ra.kind=k at *
    simp only [List.append_assoc,List.cons_append,List.nil_append] at *
    clear ht hx ha hb la lb uT uR hK lK kJ htK hn hh hlo cii er cs
    cases q
    ·clear hcii
     cases e<;>cases f<;>cases p<;>cases r
     repeat (any_goals first|simp -dsimp (maxSteps:=4000000) (maxDischargeDepth:=8) -implicitDefEqProofs [*,-Int.not_le,-Int.not_lt,amLt,ap4]|with_reducible (first|apply cB|apply iB)<;>intro _|intro _)
    ·simp only [Bool.true_and] at hcii
     subst hcii
     cases e<;>cases f<;>cases p<;>cases r
     repeat (any_goals first|simp -dsimp (maxSteps:=4000000) (maxDischargeDepth:=8) -implicitDefEqProofs [*,-Int.not_le,-Int.not_lt,amLt,ap4]|with_reducible (first|apply cB|apply iB)<;>intro _|intro _)
theorem cond_ok (hx:Tbl t rho F) (H:Heap) (ht:TabAt H T R M t.length false t) (a b:Int) :
  ∃ Y,Ccall tab 21 [.mp T 0,.int .i64 a,.int .i64 b] H=some (.tup [.int .i64 (condA t a b).1,.int .i64 (condA t a b).2],H ++ Y):=by
 have hlo:=hx.acc.lo
 have none_:(hasS t a && hasS t b)=false→condA t a b=(0,30)→∃ Y,Ccall tab 21 [.mp T 0,.int .i64 a,.int .i64 b] H=some (.tup [.int .i64 (condA t a b).1,.int .i64 (condA t a b).2],H ++ Y):=fun hh hc=>by
  have lk:=look2g_ok ht hlo a b .full
  rw [hh] at lk
  simp only [Bool.false_eq_true,if_false] at lk
  rw [hc]
  refine ⟨[],?_⟩
  rw [List.append_nil]
  refine Ccall_over rfl rfl rfl rfl ?_
  clear hx ht hlo hh hc
  repeat (any_goals first|simp -dsimp (maxSteps:=4000000) (maxDischargeDepth:=8) -implicitDefEqProofs [*,-Int.not_le,-Int.not_lt,amLt]|with_reducible (first|apply cB|apply iB)<;>intro _|intro _)
 cases ha:getT t a with
 | none=>exact none_ (by unfold hasS;rw [ha];rfl) (by unfold condA;rw [ha])
 | some ra =>
  cases hb:getT t b with
  | none=>exact none_ (by unfold hasS;rw [ha,hb];rfl) (by unfold condA;rw [ha,hb])
  | some rb =>
   have:=cond_some hx H ht ha hb
   unfold condA
   rw [ha,hb]
   exact this
theorem bin_ok (hx:Tbl t rho F) (H:Heap) (ht:TabAt H T R M t.length false t) (op:List UInt8) (a b:Int) :
  ∃ Y,Ccall tab 17 [.mp T 0,.str op,.int .i64 a,.int .i64 b] H=some (.tup [.agg (binA t F op a b).1,.int .i64 (binA t F op a b).2],H ++ Y):=by
 have hlo:=hx.acc.lo
 have none_:(hasS t a && hasS t b)=false→binA t F op a b=(opC 0 0 0 0 0,30)→∃ Y,Ccall tab 17 [.mp T 0,.str op,.int .i64 a,.int .i64 b] H=some (.tup [.agg (binA t F op a b).1,.int .i64 (binA t F op a b).2],H ++ Y):=fun hh hc=>by
  have lk:=fun x=>look2g_ok (ht.app x) hlo a b .full
  rw [hh] at lk
  simp only [Bool.false_eq_true,if_false] at lk
  rw [hc]
  refine ⟨[.cells (opC 0 0 0 0 0)],?_⟩
  refine Ccall_over rfl rfl rfl rfl ?_
  unfold opC at *
  clear hx ht hlo hh hc
  repeat (any_goals first|simp -dsimp (maxSteps:=4000000) (maxDischargeDepth:=8) -implicitDefEqProofs [*,-Int.not_le,-Int.not_lt,amLt,ap4]|with_reducible (first|apply cB|apply iB)<;>intro _|intro _)
 cases ha:getT t a with
 | none=>exact none_ (by unfold hasS;rw [ha];rfl) (by unfold binA;rw [ha])
 | some ra =>
  cases hb:getT t b with
  | none=>exact none_ (by unfold hasS;rw [ha,hb];rfl) (by unfold binA;rw [ha,hb])
  | some rb =>
   have:=bin_some hx H ht op ha hb
   unfold binA
   rw [ha,hb]
   exact this
def assignA (t:List TR) (a b:Int):Int:=match getT t a,getT t b with|some ra,some rb=>assignS a b ra rb|_,_=>30
def castA (t:List TR) (a b:Int):Int:=match getT t a,getT t b with|some ra,some rb=>castS ra rb|_,_=>30
theorem assignA_ok (hx:Tbl t rho F) (H:Heap) (ht:TabAt H T R M t.length false t) (a b:Int) :
  ∃ Y,Ccall tab 14 [.mp T 0,.int .i64 a,.int .i64 b] H=some (.int .i64 (assignA t a b),H ++ Y):=by
 have hlo:=hx.acc.lo
 have none_:(hasS t a && hasS t b)=false→assignA t a b=30→∃ Y,Ccall tab 14 [.mp T 0,.int .i64 a,.int .i64 b] H=some (.int .i64 (assignA t a b),H ++ Y):=fun hh hc=>by
  have lk:=look2g_ok ht hlo a b .full
  rw [hh] at lk
  simp only [Bool.false_eq_true,if_false] at lk
  rw [hc]
  refine ⟨[],?_⟩
  rw [List.append_nil]
  refine Ccall_over rfl rfl rfl rfl ?_
  clear hx ht hlo hh hc
  repeat (any_goals first|simp -dsimp (maxSteps:=4000000) (maxDischargeDepth:=8) -implicitDefEqProofs [*,-Int.not_le,-Int.not_lt,amLt]|with_reducible (first|apply cB|apply iB)<;>intro _|intro _)
 cases ha:getT t a with
 | none=>exact none_ (by unfold hasS;rw [ha];rfl) (by unfold assignA;rw [ha])
 | some ra =>
  cases hb:getT t b with
  | none=>exact none_ (by unfold hasS;rw [ha,hb];rfl) (by unfold assignA;rw [ha,hb])
  | some rb =>
   have:=assign_ok ht ha (hx.sz ra (List.mem_of_getElem? (getT_some ha).2)) hb (hx.sz rb (List.mem_of_getElem? (getT_some hb).2))
   unfold assignA
   rw [ha,hb]
   exact this
theorem castA_ok (hx:Tbl t rho F) (H:Heap) (ht:TabAt H T R M t.length false t) (a b:Int) :
  ∃ Y,Ccall tab 15 [.mp T 0,.int .i64 a,.int .i64 b] H=some (.int .i64 (castA t a b),H ++ Y):=by
 have hlo:=hx.acc.lo
 have none_:(hasS t a && hasS t b)=false→castA t a b=30→∃ Y,Ccall tab 15 [.mp T 0,.int .i64 a,.int .i64 b] H=some (.int .i64 (castA t a b),H ++ Y):=fun hh hc=>by
  have lk:=look2g_ok ht hlo a b .full
  rw [hh] at lk
  simp only [Bool.false_eq_true,if_false] at lk
  rw [hc]
  refine ⟨[],?_⟩
  rw [List.append_nil]
  refine Ccall_over rfl rfl rfl rfl ?_
  clear hx ht hlo hh hc
  repeat (any_goals first|simp -dsimp (maxSteps:=4000000) (maxDischargeDepth:=8) -implicitDefEqProofs [*,-Int.not_le,-Int.not_lt,amLt]|with_reducible (first|apply cB|apply iB)<;>intro _|intro _)
 cases ha:getT t a with
 | none=>exact none_ (by unfold hasS;rw [ha];rfl) (by unfold castA;rw [ha])
 | some ra =>
  cases hb:getT t b with
  | none=>exact none_ (by unfold hasS;rw [ha,hb];rfl) (by unfold castA;rw [ha,hb])
  | some rb =>
   have:=cast_ok ht ha (hx.sz ra (List.mem_of_getElem? (getT_some ha).2)) hb (hx.sz rb (List.mem_of_getElem? (getT_some hb).2))
   unfold castA
   rw [ha,hb]
   exact this
end
theorem int_of (k:Int):(decide (1<k) && decide (k≤12))=integerK k:=by
 unfold integerK
 congr 1
section
variable {t:List TR} {rho:Nat→Nat} {F C:Nat} {c:Cap}
theorem kind_of {id:Int} {r:TR} (hg:getT t id=some r):kindS t id=r.kind:=by unfold kindS;rw [hg]
theorem rptr_ok (H:Heap) (hC:H[C]?=some (.cells [.is (t.map trow) c])) (id:Int):Ccall tab 50 [.mp C 0,.int .i64 id] H=some (.bool (decide (kindS t id=13)),H):=by
 have hk:=rkind_ok hC id
 generalize kindS t id=k at *
 refine Ccall_over rfl rfl rfl rfl ?_
 clear hC
 repeat (any_goals first|simp -dsimp (maxSteps:=4000000) (maxDischargeDepth:=8) -implicitDefEqProofs [*,-Int.not_le,-Int.not_lt,amLt]|with_reducible (first|apply cB|apply iB)<;>intro _|intro _)
theorem rvoid_ok (H:Heap) (hC:H[C]?=some (.cells [.is (t.map trow) c])) {id:Int} {r:TR} (hg:getT t id=some r):Ccall tab 55 [.mp C 0,.int .i64 id] H=some (.bool (anyB r),H):=by
 have hp:=rptr_ok H hC id
 rw [kind_of hg] at hp
 obtain ⟨g0,gi⟩:=getT_some hg
 have hrow:(t.map trow)[id.toNat]?=some (trow r):=by rw [List.getElem?_map,gi];rfl
 have hrow2:∀ hh:id.toNat<(t.map trow).length,(t.map trow)[id.toNat]=trow r:=fun hh=>(List.getElem?_eq_some_iff.1 hrow).2
 have lr:=(List.getElem?_eq_some_iff.1 hrow).1
 have h1:id<((t.map trow).length:Int):=by omega
 unfold anyB
 generalize t.map trow=X at *
 unfold trow at hrow hrow2
 refine Ccall_over rfl rfl rfl rfl ?_
 clear hg gi lr
 by_cases k:r.kind=13
 ·rw [show decide (r.kind=13)=true by simpa using k] at hp ⊢
  clear k
  repeat (any_goals first|simp -dsimp (maxSteps:=4000000) (maxDischargeDepth:=8) -implicitDefEqProofs [*,-Int.not_le,-Int.not_lt,amLt]|with_reducible (first|apply cB|apply iB)<;>intro _|intro _)
 ·rw [show decide (r.kind=13)=false by simpa using k] at hp ⊢
  clear k
  repeat (any_goals first|simp -dsimp (maxSteps:=4000000) (maxDischargeDepth:=8) -implicitDefEqProofs [*,-Int.not_le,-Int.not_lt,amLt]|with_reducible (first|apply cB|apply iB)<;>intro _|intro _)
theorem rmoved_ok (hx:Tbl t rho F) (H:Heap) (hC:H[C]?=some (.cells [.is (t.map trow) c])) {p:Int} {rp:TR} (hg:getT t p=some rp) (o l r s:Int) :
  ∃ Y,Ccall tab 53 [.mp C 0,.int .i64 o,.int .i64 p,.agg (opC 0 l r s 0)] H=some (.tup [.agg (movV t F o l r p rp.elem),.int .i64 (begE t F rp.elem)],H ++ Y):=by
 obtain ⟨g0,gi⟩:=getT_some hg
 have hrow:(t.map trow)[p.toNat]?=some (trow rp):=by rw [List.getElem?_map,gi];rfl
 have hrow2:∀ hh:p.toNat<(t.map trow).length,(t.map trow)[p.toNat]=trow rp:=fun hh=>(List.getElem?_eq_some_iff.1 hrow).2
 have lr:=(List.getElem?_eq_some_iff.1 hrow).1
 have h1:p<((t.map trow).length:Int):=by omega
 have hCx:=fun x=>rapp (X:=x) hC
 obtain ⟨Z,hs⟩:=rsize_ok hx (H ++ [.cells (opC 0 l r s 0),.cells (opC 0 0 0 0 0)]) (hCx _) rp.elem
 unfold movV
 by_cases h0:begE t F rp.elem=0
 ·rw [if_pos h0,h0]
  rw [h0] at hs
  refine ⟨[.cells (opC o l r p (sizE t F rp.elem)),.cells (opC o l r p (sizE t F rp.elem))] ++ Z,?_⟩
  refine Ccall_over rfl rfl rfl rfl ?_
  unfold opC at *
  generalize t.map trow=X at *
  unfold trow at hrow hrow2
  generalize sizE t F rp.elem=sz at *
  simp only [List.append_assoc,List.cons_append,List.nil_append] at *
  clear hx hC hg gi lr h0
  repeat (any_goals first|simp -dsimp (maxSteps:=4000000) (maxDischargeDepth:=8) -implicitDefEqProofs [*,-Int.not_le,-Int.not_lt,amLt,ap4]|with_reducible (first|apply cB|apply iB)<;>intro _|intro _)
 ·rw [if_neg h0]
  refine ⟨[.cells (opC 0 l r s 0),.cells (opC 0 0 0 0 0)] ++ Z,?_⟩
  refine Ccall_over rfl rfl rfl rfl ?_
  unfold opC at *
  generalize t.map trow=X at *
  unfold trow at hrow hrow2
  generalize sizE t F rp.elem=sz at *
  generalize begE t F rp.elem=be at *
  simp only [List.append_assoc,List.cons_append,List.nil_append] at *
  clear hx hC hg gi lr
  repeat (any_goals first|simp -dsimp (maxSteps:=4000000) (maxDischargeDepth:=8) -implicitDefEqProofs [*,-Int.not_le,-Int.not_lt,amLt,ap4]|with_reducible (first|apply cB|apply iB)<;>intro _|intro _)
def ptrR (t:List TR) (F:Nat) (op:List UInt8) (a b:Int) (ra rb:TR):List AV × Int :=
 if op=[45]∧a=b then (movV t F 2 a a 7 ra.elem,begE t F ra.elem)
 else if ordS op 13=0∨(a≠b∧¬ ((ordS op 13=14∨ordS op 13=15)∧(anyB ra || anyB rb)=true)) then (opC 0 0 0 0 0,70) else (opC (ordS op 13) a a 7 0,0)
theorem ptr_eq (op:List UInt8) (a b:Int) (ra rb:TR):ptrR t F op a b ra rb=ptrS t F op a b ra rb:=by
 have s1:sgn 13 16 17=17:=rfl
 have s2:sgn 13 18 19=19:=rfl
 unfold ptrR ptrS ordS
 rw [s1,s2]
 by_cases c1:op=[45]
 ·subst c1
  by_cases cab:a=b
  ·simp [cab]
  ·simp [cab]
 by_cases c2:op=[61,61]
 ·subst c2
  by_cases cab:a=b
  ·simp [cab]
  ·cases anyB ra<;>cases anyB rb<;>simp [cab]
 by_cases c3:op=[33,61]
 ·subst c3
  by_cases cab:a=b
  ·simp [cab]
  ·cases anyB ra<;>cases anyB rb<;>simp [cab]
 by_cases c4:op=[60]∨op=[62]
 ·by_cases cab:a=b
  ·simp [c1,c2,c3,c4,cab]
  ·simp [c1,c2,c3,c4,cab]
 by_cases c5:op=[60,61]∨op=[62,61]
 ·by_cases cab:a=b
  ·simp [c1,c2,c3,c4,c5,cab]
  ·simp [c1,c2,c3,c4,c5,cab]
 simp [c1,c2,c3,c4,c5]
end
section
variable {t:List TR} {rho:Nat→Nat} {F C:Nat} {c:Cap}
theorem rbin_some (hx:Tbl t rho F) (H:Heap) (hC:H[C]?=some (.cells [.is (t.map trow) c])) (op:List UInt8) {a b:Int} {ra rb:TR} (ha:getT t a=some ra) (hb:getT t b=some rb) :
  ∃ Y,Ccall tab 18 [.mp C 0,.str op,.int .i64 a,.int .i64 b] H=some (.tup [.agg (binS t F op a b ra rb).1,.int .i64 (binS t F op a b ra rb).2],H ++ Y):=by
 have hCx:=fun x=>rapp (X:=x) hC
 have h1:=fun x=>rhas_ok (hCx x) a
 have h2:=fun x=>rhas_ok (hCx x) b
 have e1:hasS t a=true:=by unfold hasS;rw [ha];rfl
 have e2:hasS t b=true:=by unfold hasS;rw [hb];rfl
 rw [e1] at h1
 rw [e2] at h2
 have ka:=kind_of ha
 have kb:=kind_of hb
 have pa:=fun x=>rptr_ok (H ++ x) (hCx x) a
 have pb:=fun x=>rptr_ok (H ++ x) (hCx x) b
 have ia:=fun x=>rinteger_ok (hCx x) a
 have ib:=fun x=>rinteger_ok (hCx x) b
 have na:=fun x=>rkind_ok (hCx x) a
 have nb:=fun x=>rkind_ok (hCx x) b
 rw [ka,int_of] at ia
 rw [kb,int_of] at ib
 rw [ka] at pa na
 rw [kb] at pb nb
 have h5:=fun h=>basic_ok h 8 (by omega)
 have s87:(8:Int) - 1=7:=by decide
 rw [s87] at h5
 have mv:∀ (o p l r s:Int) (rp:TR),getT t p=some rp→∃ Y o' p' q' r' s',movV t F o l r p rp.elem=opC o' p' q' r' s'∧Ccall tab 53 [.mp C 0,.int .i64 o,.int .i64 p,.agg (opC 0 l r s 0)] (H ++ [.cells (opC 0 0 0 0 0)])=some (.tup [.agg (opC o' p' q' r' s'),.int .i64 (begE t F rp.elem)],H ++ (.cells (opC 0 0 0 0 0) :: Y)):=fun o p l r s rp hg=>by
  obtain ⟨Y,h⟩:=rmoved_ok hx (H ++ [.cells (opC 0 0 0 0 0)]) (hCx _) hg o l r s
  have hm:∃ o' p' q' r' s',movV t F o l r p rp.elem=opC o' p' q' r' s':=by unfold movV;split<;>exact ⟨_,_,_,_,_,rfl⟩
  obtain ⟨o',p',q',r',s',hm⟩:=hm
  rw [hm,List.append_assoc] at h
  exact ⟨Y,o',p',q',r',s',hm,h⟩
 cases ha1:integerK ra.kind with
 | true =>
  have k13:=int_not_ptr ha1
  rw [ha1] at ia
  rw [show decide (ra.kind=13)=false by simpa using k13] at pa
  cases hb1:integerK rb.kind with
  | true =>
   rw [hb1] at ib
   have k13b:=int_not_ptr hb1
   rw [show decide (rb.kind=13)=false by simpa using k13b] at pb
   obtain ⟨u1,u2,u3⟩:=usual_in ha1 hb1
   have hi:=fun h=>integers_ok h op ra.kind rb.kind _ _ u1 rfl ⟨u2,u3⟩ (promote_in2 ha1)
   rw [int_ar] at hi
   have ebs:binS t F op a b ra rb=arS op (usual ra.kind rb.kind).1 (promote ra.kind (-1)):=by unfold binS arV;rw [ha1,hb1];rfl
   rw [ebs]
   obtain ⟨o,p,q,r,s,ho⟩:=opC_of op (usual ra.kind rb.kind).1 (promote ra.kind (-1))
   rw [ho] at hi ⊢
   generalize (arS op (usual ra.kind rb.kind).1 (promote ra.kind (-1))).2=er at *
   refine ⟨[.cells (opC o p q r s)],?_⟩
   refine Ccall_over rfl rfl rfl rfl ?_
   unfold opC at *
   generalize t.map trow=X at *
   clear mv hx hC hCx ha hb e1 e2 ka kb ha1 hb1 k13 k13b u1 u2 u3 ebs ho
   repeat (any_goals first|simp -dsimp (maxSteps:=4000000) (maxDischargeDepth:=8) -implicitDefEqProofs [*,-Int.not_le,-Int.not_lt,amLt,ap4]|with_reducible (first|apply cB|apply iB)<;>intro _|intro _)
  | false =>
   rw [hb1] at ib
   by_cases k13b:rb.kind=13
   ·rw [show decide (rb.kind=13)=true by simpa using k13b] at pb
    have ebs:binS t F op a b ra rb=if op=[43] then (movV t F 1 7 b b rb.elem,begE t F rb.elem) else (opC 0 0 0 0 0,70):=by unfold binS;rw [ha1,hb1];simp [k13,k13b]
    rw [ebs]
    by_cases co:op=[43]
    ·rw [if_pos co]
     obtain ⟨Y,o',p',q',r',s',hm,hc⟩:=mv 1 b 7 b 0 rb hb
     rw [hm]
     generalize begE t F rb.elem=be at *
     refine ⟨.cells (opC o' p' q' r' s') :: Y,?_⟩
     subst co
     refine Ccall_over rfl rfl rfl rfl ?_
     unfold opC at *
     generalize t.map trow=X at *
     clear mv hx hC hCx ha hb e1 e2 ka kb ha1 hb1 k13 k13b ebs hm
     repeat (any_goals first|simp -dsimp (maxSteps:=4000000) (maxDischargeDepth:=8) -implicitDefEqProofs [*,-Int.not_le,-Int.not_lt,amLt,ap4]|with_reducible (first|apply cB|apply iB)<;>intro _|intro _)
    ·rw [if_neg co]
     refine ⟨[.cells (opC 0 0 0 0 0)],?_⟩
     refine Ccall_over rfl rfl rfl rfl ?_
     unfold opC at *
     generalize t.map trow=X at *
     clear mv hx hC hCx ha hb e1 e2 ka kb ha1 hb1 k13 k13b ebs
     repeat (any_goals first|simp -dsimp (maxSteps:=4000000) (maxDischargeDepth:=8) -implicitDefEqProofs [*,-Int.not_le,-Int.not_lt,amLt,ap4]|with_reducible (first|apply cB|apply iB)<;>intro _|intro _)
   ·rw [show decide (rb.kind=13)=false by simpa using k13b] at pb
    have ebs:binS t F op a b ra rb=(opC 0 0 0 0 0,70):=by unfold binS;rw [ha1,hb1];simp [k13,k13b]
    rw [ebs]
    refine ⟨[.cells (opC 0 0 0 0 0)],?_⟩
    refine Ccall_over rfl rfl rfl rfl ?_
    unfold opC at *
    generalize t.map trow=X at *
    clear mv hx hC hCx ha hb e1 e2 ka kb ha1 hb1 k13 k13b ebs
    repeat (any_goals first|simp -dsimp (maxSteps:=4000000) (maxDischargeDepth:=8) -implicitDefEqProofs [*,-Int.not_le,-Int.not_lt,amLt,ap4]|with_reducible (first|apply cB|apply iB)<;>intro _|intro _)
 | false =>
  rw [ha1] at ia
  by_cases k13:ra.kind=13
  ·rw [show decide (ra.kind=13)=true by simpa using k13] at pa
   by_cases k13b:rb.kind=13
   ·have hb1:integerK rb.kind=false:=by
     cases q:integerK rb.kind with
     | false=>rfl
     | true=>exact absurd k13b (int_not_ptr q)
    rw [hb1] at ib
    rw [show decide (rb.kind=13)=true by simpa using k13b] at pb
    have ebs:binS t F op a b ra rb=ptrR t F op a b ra rb:=by rw [ptr_eq];unfold binS;rw [ha1];simp [k13,k13b]
    rw [ebs]
    unfold ptrR
    have ho:=fun h=>order_ok h op 13
    have va:=fun x=>rvoid_ok (H ++ x) (hCx x) ha
    have vb:=fun x=>rvoid_ok (H ++ x) (hCx x) hb
    by_cases co:op=[45]∧a=b
    ·rw [if_pos co]
     obtain ⟨c1,c2⟩:=co
     obtain ⟨Y,h⟩:=rmoved_ok hx (H ++ [.cells (opC 0 0 0 0 0),.free]) (hCx _) ha 2 a a 0
     have hmv:movV t F 2 a a 7 ra.elem=if begE t F ra.elem=0 then opC 2 a a 7 (sizE t F ra.elem) else opC 0 0 0 0 0:=rfl
     rw [hmv]
     unfold movV at h
     subst c1 c2
     by_cases h0:begE t F ra.elem=0
     ·rw [if_pos h0,h0] at h ⊢
      generalize sizE t F ra.elem=sz at *
      refine ⟨[.cells (opC 2 a a 7 sz),.cells (opC 2 a a 7 sz)] ++ Y,?_⟩
      refine Ccall_over rfl rfl rfl rfl ?_
      unfold opC at *
      generalize t.map trow=X at *
      simp only [List.append_assoc,List.cons_append,List.nil_append] at *
      clear mv hx hC hCx ha hb e1 e2 ka kb ha1 hb1 k13 k13b ebs h0 hmv va vb ho
      repeat (any_goals first|simp -dsimp (maxSteps:=4000000) (maxDischargeDepth:=8) -implicitDefEqProofs [*,-Int.not_le,-Int.not_lt,amLt,ap4]|with_reducible (first|apply cB|apply iB)<;>intro _|intro _)
     ·rw [if_neg h0] at h ⊢
      generalize begE t F ra.elem=be at *
      refine ⟨[.cells (opC 0 0 0 0 0),.cells (opC 0 0 0 0 0)] ++ Y,?_⟩
      refine Ccall_over rfl rfl rfl rfl ?_
      unfold opC at *
      generalize t.map trow=X at *
      simp only [List.append_assoc,List.cons_append,List.nil_append] at *
      clear mv hx hC hCx ha hb e1 e2 ka kb ha1 hb1 k13 k13b ebs hmv va vb ho
      repeat (any_goals first|simp -dsimp (maxSteps:=4000000) (maxDischargeDepth:=8) -implicitDefEqProofs [*,-Int.not_le,-Int.not_lt,amLt,ap4]|with_reducible (first|apply cB|apply iB)<;>intro _|intro _)
    ·rw [if_neg co]
     have e8:(if ordS op 13=0∨(a≠b∧¬ ((ordS op 13=14∨ordS op 13=15)∧(anyB ra || anyB rb)=true)) then (opC 0 0 0 0 0,(70:Int)) else (opC (ordS op 13) a a 7 0,0))=if ordS op 13=0 then (opC 0 0 0 0 0,70) else if a=b then (opC (ordS op 13) a a 7 0,0) else if (ordS op 13=14∨ordS op 13=15) then (if anyB ra=true then (opC (ordS op 13) a a 7 0,0) else if anyB rb=true then (opC (ordS op 13) a a 7 0,0) else (opC 0 0 0 0 0,70)) else (opC 0 0 0 0 0,70):=by
      by_cases d1:ordS op 13=0
      ·simp [d1]
      ·by_cases d2:a=b
       ·simp [d1,d2]
       ·by_cases d3:ordS op 13=14∨ordS op 13=15
        ·cases anyB ra<;>cases anyB rb<;>simp [d1,d2,d3]
        ·simp [d1,d2,d3]
     rw [e8]
     have cg:∀ v:List AV × Int,(∃ o p q r s,v.1=opC o p q r s)→Ccall tab 18 [.mp C 0,.str op,.int .i64 a,.int .i64 b] H=some (.tup [.agg v.1,.int .i64 v.2],H ++ [.cells v.1])→∃ Y,Ccall tab 18 [.mp C 0,.str op,.int .i64 a,.int .i64 b] H=some (.tup [.agg v.1,.int .i64 v.2],H ++ Y):=fun v _ h=>⟨_,h⟩
     have hco:¬ op=[45]∨¬ a=b:=by
      by_cases d1:op=[45]
      ·exact .inr fun d2=>co ⟨d1,d2⟩
      ·exact .inl d1
     generalize ordS op 13=od at *
     generalize anyB ra=e at *
     generalize anyB rb=f at *
     clear co e8
     by_cases d1:od=0
     ·rw [if_pos d1]
      refine ⟨[.cells (opC 0 0 0 0 0)],?_⟩
      refine Ccall_over rfl rfl rfl rfl ?_
      unfold opC at *
      generalize t.map trow=X at *
      clear mv hx hC hCx ha hb e1 e2 ka kb ha1 hb1 k13 k13b ebs cg
      rcases hco with hco|hco
      ·repeat (any_goals first|simp -dsimp (maxSteps:=4000000) (maxDischargeDepth:=8) -implicitDefEqProofs [*,-Int.not_le,-Int.not_lt,amLt,ap4]|with_reducible (first|apply cB|apply iB)<;>intro _|intro _)
      ·by_cases c45:op=[45]
       ·subst c45
        repeat (any_goals first|simp -dsimp (maxSteps:=4000000) (maxDischargeDepth:=8) -implicitDefEqProofs [*,-Int.not_le,-Int.not_lt,amLt,ap4]|with_reducible (first|apply cB|apply iB)<;>intro _|intro _)
       ·repeat (any_goals first|simp -dsimp (maxSteps:=4000000) (maxDischargeDepth:=8) -implicitDefEqProofs [*,-Int.not_le,-Int.not_lt,amLt,ap4]|with_reducible (first|apply cB|apply iB)<;>intro _|intro _)
     ·rw [if_neg d1]
      by_cases d2:a=b
      ·rw [if_pos d2]
       have hco:¬ op=[45]:=by
        rcases hco with h|h
        ·exact h
        ·exact absurd d2 h
       refine ⟨[.cells (opC od a a 7 0)],?_⟩
       refine Ccall_over rfl rfl rfl rfl ?_
       unfold opC at *
       generalize t.map trow=X at *
       clear mv hx hC hCx ha hb e1 e2 ka kb ha1 hb1 k13 k13b ebs cg
       repeat (any_goals first|simp -dsimp (maxSteps:=4000000) (maxDischargeDepth:=8) -implicitDefEqProofs [*,-Int.not_le,-Int.not_lt,amLt,ap4]|with_reducible (first|apply cB|apply iB)<;>intro _|intro _)
      ·rw [if_neg d2]
       clear hco
       by_cases d3:od=14∨od=15
       ·rw [if_pos d3]
        cases e with
        | true =>
         simp only [if_true]
         refine ⟨[.cells (opC od a a 7 0)],?_⟩
         refine Ccall_over rfl rfl rfl rfl ?_
         unfold opC at *
         generalize t.map trow=X at *
         clear mv hx hC hCx ha hb e1 e2 ka kb ha1 hb1 k13 k13b ebs cg d1
         rcases d3 with rfl|rfl
         ·by_cases c45:op=[45]
          ·subst c45
           repeat (any_goals first|simp -dsimp (maxSteps:=4000000) (maxDischargeDepth:=8) -implicitDefEqProofs [*,-Int.not_le,-Int.not_lt,amLt,ap4]|with_reducible (first|apply cB|apply iB)<;>intro _|intro _)
          ·repeat (any_goals first|simp -dsimp (maxSteps:=4000000) (maxDischargeDepth:=8) -implicitDefEqProofs [*,-Int.not_le,-Int.not_lt,amLt,ap4]|with_reducible (first|apply cB|apply iB)<;>intro _|intro _)
         ·by_cases c45:op=[45]
          ·subst c45
           repeat (any_goals first|simp -dsimp (maxSteps:=4000000) (maxDischargeDepth:=8) -implicitDefEqProofs [*,-Int.not_le,-Int.not_lt,amLt,ap4]|with_reducible (first|apply cB|apply iB)<;>intro _|intro _)
          ·repeat (any_goals first|simp -dsimp (maxSteps:=4000000) (maxDischargeDepth:=8) -implicitDefEqProofs [*,-Int.not_le,-Int.not_lt,amLt,ap4]|with_reducible (first|apply cB|apply iB)<;>intro _|intro _)
        | false =>
         simp only [Bool.false_eq_true,if_false]
         cases f with
         | true =>
          simp only [if_true]
          refine ⟨[.cells (opC od a a 7 0)],?_⟩
          refine Ccall_over rfl rfl rfl rfl ?_
          unfold opC at *
          generalize t.map trow=X at *
          clear mv hx hC hCx ha hb e1 e2 ka kb ha1 hb1 k13 k13b ebs cg d1
          rcases d3 with rfl|rfl
          ·by_cases c45:op=[45]
           ·subst c45
            repeat (any_goals first|simp -dsimp (maxSteps:=4000000) (maxDischargeDepth:=8) -implicitDefEqProofs [*,-Int.not_le,-Int.not_lt,amLt,ap4]|with_reducible (first|apply cB|apply iB)<;>intro _|intro _)
           ·repeat (any_goals first|simp -dsimp (maxSteps:=4000000) (maxDischargeDepth:=8) -implicitDefEqProofs [*,-Int.not_le,-Int.not_lt,amLt,ap4]|with_reducible (first|apply cB|apply iB)<;>intro _|intro _)
          ·by_cases c45:op=[45]
           ·subst c45
            repeat (any_goals first|simp -dsimp (maxSteps:=4000000) (maxDischargeDepth:=8) -implicitDefEqProofs [*,-Int.not_le,-Int.not_lt,amLt,ap4]|with_reducible (first|apply cB|apply iB)<;>intro _|intro _)
           ·repeat (any_goals first|simp -dsimp (maxSteps:=4000000) (maxDischargeDepth:=8) -implicitDefEqProofs [*,-Int.not_le,-Int.not_lt,amLt,ap4]|with_reducible (first|apply cB|apply iB)<;>intro _|intro _)
         | false =>
          simp only [Bool.false_eq_true,if_false]
          refine ⟨[.cells (opC 0 0 0 0 0)],?_⟩
          refine Ccall_over rfl rfl rfl rfl ?_
          unfold opC at *
          generalize t.map trow=X at *
          clear mv hx hC hCx ha hb e1 e2 ka kb ha1 hb1 k13 k13b ebs cg d1
          rcases d3 with rfl|rfl
          ·by_cases c45:op=[45]
           ·subst c45
            repeat (any_goals first|simp -dsimp (maxSteps:=4000000) (maxDischargeDepth:=8) -implicitDefEqProofs [*,-Int.not_le,-Int.not_lt,amLt,ap4]|with_reducible (first|apply cB|apply iB)<;>intro _|intro _)
           ·repeat (any_goals first|simp -dsimp (maxSteps:=4000000) (maxDischargeDepth:=8) -implicitDefEqProofs [*,-Int.not_le,-Int.not_lt,amLt,ap4]|with_reducible (first|apply cB|apply iB)<;>intro _|intro _)
          ·by_cases c45:op=[45]
           ·subst c45
            repeat (any_goals first|simp -dsimp (maxSteps:=4000000) (maxDischargeDepth:=8) -implicitDefEqProofs [*,-Int.not_le,-Int.not_lt,amLt,ap4]|with_reducible (first|apply cB|apply iB)<;>intro _|intro _)
           ·repeat (any_goals first|simp -dsimp (maxSteps:=4000000) (maxDischargeDepth:=8) -implicitDefEqProofs [*,-Int.not_le,-Int.not_lt,amLt,ap4]|with_reducible (first|apply cB|apply iB)<;>intro _|intro _)
       ·rw [if_neg d3]
        simp only [not_or] at d3
        obtain ⟨d4,d5⟩:=d3
        refine ⟨[.cells (opC 0 0 0 0 0)],?_⟩
        refine Ccall_over rfl rfl rfl rfl ?_
        unfold opC at *
        generalize t.map trow=X at *
        clear mv hx hC hCx ha hb e1 e2 ka kb ha1 hb1 k13 k13b ebs cg
        by_cases c45:op=[45]
        ·subst c45
         repeat (any_goals first|simp -dsimp (maxSteps:=4000000) (maxDischargeDepth:=8) -implicitDefEqProofs [*,-Int.not_le,-Int.not_lt,amLt,ap4]|with_reducible (first|apply cB|apply iB)<;>intro _|intro _)
        ·repeat (any_goals first|simp -dsimp (maxSteps:=4000000) (maxDischargeDepth:=8) -implicitDefEqProofs [*,-Int.not_le,-Int.not_lt,amLt,ap4]|with_reducible (first|apply cB|apply iB)<;>intro _|intro _)
   ·rw [show decide (rb.kind=13)=false by simpa using k13b] at pb
    cases hb1:integerK rb.kind with
    | true =>
     rw [hb1] at ib
     have ebs:binS t F op a b ra rb=if op=[43] then (movV t F 1 a 7 a ra.elem,begE t F ra.elem) else if op=[45] then (movV t F 2 a 7 a ra.elem,begE t F ra.elem) else (opC 0 0 0 0 0,70):=by unfold binS;rw [ha1,hb1];simp [k13,k13b]
     rw [ebs]
     by_cases co:op=[43]
     ·rw [if_pos co]
      obtain ⟨Y,o',p',q',r',s',hm,hc⟩:=mv 1 a a 7 0 ra ha
      rw [hm]
      generalize begE t F ra.elem=be at *
      refine ⟨.cells (opC o' p' q' r' s') :: Y,?_⟩
      subst co
      refine Ccall_over rfl rfl rfl rfl ?_
      unfold opC at *
      generalize t.map trow=X at *
      clear mv hx hC hCx ha hb e1 e2 ka kb ha1 hb1 k13 k13b ebs hm
      repeat (any_goals first|simp -dsimp (maxSteps:=4000000) (maxDischargeDepth:=8) -implicitDefEqProofs [*,-Int.not_le,-Int.not_lt,amLt,ap4]|with_reducible (first|apply cB|apply iB)<;>intro _|intro _)
     ·rw [if_neg co]
      by_cases co2:op=[45]
      ·rw [if_pos co2]
       obtain ⟨Y,o',p',q',r',s',hm,hc⟩:=mv 2 a a 7 0 ra ha
       rw [hm]
       generalize begE t F ra.elem=be at *
       refine ⟨.cells (opC o' p' q' r' s') :: Y,?_⟩
       subst co2
       refine Ccall_over rfl rfl rfl rfl ?_
       unfold opC at *
       generalize t.map trow=X at *
       clear mv hx hC hCx ha hb e1 e2 ka kb ha1 hb1 k13 k13b ebs hm co
       repeat (any_goals first|simp -dsimp (maxSteps:=4000000) (maxDischargeDepth:=8) -implicitDefEqProofs [*,-Int.not_le,-Int.not_lt,amLt,ap4]|with_reducible (first|apply cB|apply iB)<;>intro _|intro _)
      ·rw [if_neg co2]
       refine ⟨[.cells (opC 0 0 0 0 0)],?_⟩
       refine Ccall_over rfl rfl rfl rfl ?_
       unfold opC at *
       generalize t.map trow=X at *
       clear mv hx hC hCx ha hb e1 e2 ka kb ha1 hb1 k13 k13b ebs
       repeat (any_goals first|simp -dsimp (maxSteps:=4000000) (maxDischargeDepth:=8) -implicitDefEqProofs [*,-Int.not_le,-Int.not_lt,amLt,ap4]|with_reducible (first|apply cB|apply iB)<;>intro _|intro _)
    | false =>
     rw [hb1] at ib
     have ebs:binS t F op a b ra rb=(opC 0 0 0 0 0,70):=by unfold binS;rw [ha1,hb1];simp [k13,k13b]
     rw [ebs]
     refine ⟨[.cells (opC 0 0 0 0 0)],?_⟩
     refine Ccall_over rfl rfl rfl rfl ?_
     unfold opC at *
     generalize t.map trow=X at *
     clear mv hx hC hCx ha hb e1 e2 ka kb ha1 hb1 k13 k13b ebs
     repeat (any_goals first|simp -dsimp (maxSteps:=4000000) (maxDischargeDepth:=8) -implicitDefEqProofs [*,-Int.not_le,-Int.not_lt,amLt,ap4]|with_reducible (first|apply cB|apply iB)<;>intro _|intro _)
  ·rw [show decide (ra.kind=13)=false by simpa using k13] at pa
   have ebs:binS t F op a b ra rb=(opC 0 0 0 0 0,70):=by unfold binS;rw [ha1];simp [k13]
   rw [ebs]
   refine ⟨[.cells (opC 0 0 0 0 0)],?_⟩
   refine Ccall_over rfl rfl rfl rfl ?_
   unfold opC at *
   generalize t.map trow=X at *
   generalize integerK rb.kind=j at *
   generalize decide (rb.kind=13)=q at *
   clear mv hx hC hCx ha hb e1 e2 ka kb ha1 k13 ebs
   cases j<;>cases q
   repeat (any_goals first|simp -dsimp (maxSteps:=4000000) (maxDischargeDepth:=8) -implicitDefEqProofs [*,-Int.not_le,-Int.not_lt,amLt,ap4]|with_reducible (first|apply cB|apply iB)<;>intro _|intro _)
end
section
variable {t:List TR} {rho:Nat→Nat} {F C:Nat} {c:Cap}
theorem rscal_ok {H:Heap} (hT:H[C]?=some (.cells [.is (t.map trow) c])) (id:Int):Ccall tab 13 [.mp C 0,.int .i64 id] H=some (.bool (decide (1<kindS t id) && decide (kindS t id≤13)),H):=by
 have hh:=rkind_ok hT id
 generalize kindS t id=k at *
 refine Ccall_over rfl rfl rfl rfl ?_
 by_cases h0:1<k
 ·repeat (any_goals first|simp -dsimp (maxSteps:=4000000) (maxDischargeDepth:=8) -implicitDefEqProofs [*,-Int.not_le,-Int.not_lt,amLt]|with_reducible (first|apply cB|apply iB)<;>intro _|intro _)
 ·repeat (any_goals first|simp -dsimp (maxSteps:=4000000) (maxDischargeDepth:=8) -implicitDefEqProofs [*,-Int.not_le,-Int.not_lt,amLt]|with_reducible (first|apply cB|apply iB)<;>intro _|intro _)
theorem rbin_ok (hx:Tbl t rho F) (H:Heap) (hC:H[C]?=some (.cells [.is (t.map trow) c])) (op:List UInt8) (a b:Int) :
  ∃ Y,Ccall tab 18 [.mp C 0,.str op,.int .i64 a,.int .i64 b] H=some (.tup [.agg (binA t F op a b).1,.int .i64 (binA t F op a b).2],H ++ Y):=by
 have none_:(hasS t a=false∨(hasS t a=true∧hasS t b=false))→binA t F op a b=(opC 0 0 0 0 0,30)→∃ Y,Ccall tab 18 [.mp C 0,.str op,.int .i64 a,.int .i64 b] H=some (.tup [.agg (binA t F op a b).1,.int .i64 (binA t F op a b).2],H ++ Y):=fun hh hc=>by
  have hCx:=fun x=>rapp (X:=x) hC
  have h1:=fun x=>rhas_ok (hCx x) a
  have h2:=fun x=>rhas_ok (hCx x) b
  rw [hc]
  refine ⟨[.cells (opC 0 0 0 0 0)],?_⟩
  refine Ccall_over rfl rfl rfl rfl ?_
  unfold opC at *
  rcases hh with hh|⟨hh,hh2⟩
  ·rw [hh] at h1
   clear hx hC hCx hc hh
   repeat (any_goals first|simp -dsimp (maxSteps:=4000000) (maxDischargeDepth:=8) -implicitDefEqProofs [*,-Int.not_le,-Int.not_lt,amLt,ap4]|with_reducible (first|apply cB|apply iB)<;>intro _|intro _)
  ·rw [hh] at h1
   rw [hh2] at h2
   clear hx hC hCx hc hh hh2
   repeat (any_goals first|simp -dsimp (maxSteps:=4000000) (maxDischargeDepth:=8) -implicitDefEqProofs [*,-Int.not_le,-Int.not_lt,amLt,ap4]|with_reducible (first|apply cB|apply iB)<;>intro _|intro _)
 cases ha:getT t a with
 | none=>exact none_ (.inl (by unfold hasS;rw [ha];rfl)) (by unfold binA;rw [ha])
 | some ra =>
  cases hb:getT t b with
  | none=>exact none_ (.inr ⟨by unfold hasS;rw [ha];rfl,by unfold hasS;rw [hb];rfl⟩) (by unfold binA;rw [ha,hb])
  | some rb =>
   have:=rbin_some hx H hC op ha hb
   unfold binA
   rw [ha,hb]
   exact this
theorem run_ok (H:Heap) (hC:H[C]?=some (.cells [.is (t.map trow) c])) (op:List UInt8) (a:Int) :
  Ccall tab 20 [.mp C 0,.str op,.int .i64 a] H=some (.tup [.int .i64 (unA t op a).1,.int .i64 (unA t op a).2],H):=by
 have h1:=rhas_ok hC a
 have ia:=rinteger_ok hC a
 have sa:=rscal_ok hC a
 have na:=rkind_ok hC a
 rw [int_of] at ia
 unfold unA
 cases hg:getT t a with
 | none =>
  have hh:hasS t a=false:=by unfold hasS;rw [hg];rfl
  rw [hh] at h1
  refine Ccall_over rfl rfl rfl rfl ?_
  clear hC ia sa na hg hh
  repeat (any_goals first|simp -dsimp (maxSteps:=4000000) (maxDischargeDepth:=8) -implicitDefEqProofs [*,-Int.not_le,-Int.not_lt,amLt]|with_reducible (first|apply cB|apply iB)<;>intro _|intro _)
 | some r =>
  have hh:hasS t a=true:=by unfold hasS;rw [hg];rfl
  rw [hh] at h1
  have ek:=kind_of hg
  rw [ek] at ia sa na
  have h5:=fun h=>basic_ok h 8 (by omega)
  have s87:(8:Int) - 1=7:=by decide
  rw [s87] at h5
  have hp:=fun h=>rpromote_ok h r.kind
  dsimp only
  unfold unS
  refine Ccall_over rfl rfl rfl rfl ?_
  by_cases c1:op=[33]
  ·subst c1
   by_cases c2:1<r.kind∧r.kind≤13
   ·rw [if_pos ⟨rfl,c2⟩]
    rw [show (decide (1<r.kind) && decide (r.kind≤13))=true by simp [c2.1,c2.2]] at sa
    clear hC hg hh ek ia hp c2
    repeat (any_goals first|simp -dsimp (maxSteps:=4000000) (maxDischargeDepth:=8) -implicitDefEqProofs [*,-Int.not_le,-Int.not_lt,amLt]|with_reducible (first|apply cB|apply iB)<;>intro _|intro _)
   ·rw [if_neg (fun q=>c2 q.2),if_neg (by simp)]
    rw [show (decide (1<r.kind) && decide (r.kind≤13))=false by
     cases hq:(decide (1<r.kind) && decide (r.kind≤13)) with
     | false=>rfl
     | true=>simp only [Bool.and_eq_true,decide_eq_true_eq] at hq;exact absurd hq c2] at sa
    clear hC hg hh ek ia hp c2
    repeat (any_goals first|simp -dsimp (maxSteps:=4000000) (maxDischargeDepth:=8) -implicitDefEqProofs [*,-Int.not_le,-Int.not_lt,amLt]|with_reducible (first|apply cB|apply iB)<;>intro _|intro _)
  ·rw [if_neg (fun q=>c1 q.1)]
   by_cases c2:op=[43]∨op=[45]∨op=[126]
   ·cases ci:integerK r.kind with
    | true =>
     rw [ci] at ia
     rw [if_pos ⟨c2,rfl⟩]
     have hpr:=promote_in2 ci
     have hrk:=fun h=>basic_ok h (promote r.kind (-1)) hpr
     generalize promote r.kind (-1)=pk at *
     clear hC hg hh ek sa ci hpr
     rcases c2 with rfl|rfl|rfl
     ·repeat (any_goals first|simp -dsimp (maxSteps:=4000000) (maxDischargeDepth:=8) -implicitDefEqProofs [*,-Int.not_le,-Int.not_lt,amLt]|with_reducible (first|apply cB|apply iB)<;>intro _|intro _)
     ·repeat (any_goals first|simp -dsimp (maxSteps:=4000000) (maxDischargeDepth:=8) -implicitDefEqProofs [*,-Int.not_le,-Int.not_lt,amLt]|with_reducible (first|apply cB|apply iB)<;>intro _|intro _)
     ·repeat (any_goals first|simp -dsimp (maxSteps:=4000000) (maxDischargeDepth:=8) -implicitDefEqProofs [*,-Int.not_le,-Int.not_lt,amLt]|with_reducible (first|apply cB|apply iB)<;>intro _|intro _)
    | false =>
     rw [ci] at ia
     rw [if_neg (fun q=>by cases q.2)]
     clear hC hg hh ek sa ci hp
     rcases c2 with rfl|rfl|rfl
     ·repeat (any_goals first|simp -dsimp (maxSteps:=4000000) (maxDischargeDepth:=8) -implicitDefEqProofs [*,-Int.not_le,-Int.not_lt,amLt]|with_reducible (first|apply cB|apply iB)<;>intro _|intro _)
     ·repeat (any_goals first|simp -dsimp (maxSteps:=4000000) (maxDischargeDepth:=8) -implicitDefEqProofs [*,-Int.not_le,-Int.not_lt,amLt]|with_reducible (first|apply cB|apply iB)<;>intro _|intro _)
     ·repeat (any_goals first|simp -dsimp (maxSteps:=4000000) (maxDischargeDepth:=8) -implicitDefEqProofs [*,-Int.not_le,-Int.not_lt,amLt]|with_reducible (first|apply cB|apply iB)<;>intro _|intro _)
   ·rw [if_neg (fun q=>c2 q.1)]
    simp only [not_or] at c2
    obtain ⟨c3,c4,c5⟩:=c2
    clear hC hg hh ek sa ia hp
    repeat (any_goals first|simp -dsimp (maxSteps:=4000000) (maxDischargeDepth:=8) -implicitDefEqProofs [*,-Int.not_le,-Int.not_lt,amLt]|with_reducible (first|apply cB|apply iB)<;>intro _|intro _)
theorem rcond_ok (H:Heap) (hC:H[C]?=some (.cells [.is (t.map trow) c])) (a b:Int) :
  Ccall tab 22 [.mp C 0,.int .i64 a,.int .i64 b] H=some (.tup [.int .i64 (condA t a b).1,.int .i64 (condA t a b).2],H):=by
 have h1:=rhas_ok hC a
 have h2:=rhas_ok hC b
 have ia:=rinteger_ok hC a
 have ib:=rinteger_ok hC b
 have na:=rkind_ok hC a
 have nb:=rkind_ok hC b
 have pa:=rptr_ok H hC a
 have pb:=rptr_ok H hC b
 have ca:=rrecord_ok hC a
 rw [int_of] at ia ib
 unfold condA
 cases ha:getT t a with
 | none =>
  have hh:hasS t a=false:=by unfold hasS;rw [ha];rfl
  rw [hh] at h1
  refine Ccall_over rfl rfl rfl rfl ?_
  clear hC ia ib na nb pa pb ca ha hh h2
  repeat (any_goals first|simp -dsimp (maxSteps:=4000000) (maxDischargeDepth:=8) -implicitDefEqProofs [*,-Int.not_le,-Int.not_lt,amLt]|with_reducible (first|apply cB|apply iB)<;>intro _|intro _)
 | some ra =>
  have hh:hasS t a=true:=by unfold hasS;rw [ha];rfl
  rw [hh] at h1
  have ek:=kind_of ha
  rw [ek] at ia na pa ca
  have va:=rvoid_ok H hC ha
  cases hb:getT t b with
  | none =>
   have hh2:hasS t b=false:=by unfold hasS;rw [hb];rfl
   rw [hh2] at h2
   refine Ccall_over rfl rfl rfl rfl ?_
   clear hC ia ib na nb pa pb ca ha hb hh hh2 va ek
   repeat (any_goals first|simp -dsimp (maxSteps:=4000000) (maxDischargeDepth:=8) -implicitDefEqProofs [*,-Int.not_le,-Int.not_lt,amLt]|with_reducible (first|apply cB|apply iB)<;>intro _|intro _)
  | some rb =>
   have hh2:hasS t b=true:=by unfold hasS;rw [hb];rfl
   rw [hh2] at h2
   have ek2:=kind_of hb
   rw [ek2] at ib nb pb
   have vb:=rvoid_ok H hC hb
   dsimp only
   unfold condS
   refine Ccall_over rfl rfl rfl rfl ?_
   by_cases cii:(integerK ra.kind && integerK rb.kind)=true
   ·rw [if_pos cii]
    simp only [Bool.and_eq_true] at cii
    obtain ⟨i1,i2⟩:=cii
    obtain ⟨u1,u2,u3⟩:=usual_in i1 i2
    have hu:=fun h=>rusual_ok h ra.kind rb.kind
    have hrk:=fun h=>basic_ok h (usual ra.kind rb.kind).1 ⟨u2,u3⟩
    rw [i1] at ia
    rw [i2] at ib
    generalize (usual ra.kind rb.kind).1=uu at *
    generalize (usual ra.kind rb.kind).2=u2' at *
    clear hC ha hb hh hh2 ek ek2 va vb pa pb ca i1 i2 u1 u2 u3
    repeat (any_goals first|simp -dsimp (maxSteps:=4000000) (maxDischargeDepth:=8) -implicitDefEqProofs [*,-Int.not_le,-Int.not_lt,amLt]|with_reducible (first|apply cB|apply iB)<;>intro _|intro _)
   ·rw [if_neg cii]
    have hcii:(integerK ra.kind && integerK rb.kind)=false:=by simpa using cii
    by_cases cs:a=b∧(ra.kind=13∨ra.kind=1∨ra.kind=15∨ra.kind=16)
    ·rw [if_pos cs]
     obtain ⟨cab,ck⟩:=cs
     subst cab
     have e:ra=rb:=by rw [ha] at hb;exact Option.some.inj hb
     subst e
     have q0:integerK ra.kind=false:=by simpa using hcii
     rw [q0] at ia
     generalize ra.kind=k at *
     clear hC ha hb hh hh2 ek ek2 va vb ib pb h2 nb cii hcii q0
     rcases ck with rfl|rfl|rfl|rfl
     ·repeat (any_goals first|simp -dsimp (maxSteps:=4000000) (maxDischargeDepth:=8) -implicitDefEqProofs [*,-Int.not_le,-Int.not_lt,amLt]|with_reducible (first|apply cB|apply iB)<;>intro _|intro _)
     ·repeat (any_goals first|simp -dsimp (maxSteps:=4000000) (maxDischargeDepth:=8) -implicitDefEqProofs [*,-Int.not_le,-Int.not_lt,amLt]|with_reducible (first|apply cB|apply iB)<;>intro _|intro _)
     ·repeat (any_goals first|simp -dsimp (maxSteps:=4000000) (maxDischargeDepth:=8) -implicitDefEqProofs [*,-Int.not_le,-Int.not_lt,amLt]|with_reducible (first|apply cB|apply iB)<;>intro _|intro _)
     ·repeat (any_goals first|simp -dsimp (maxSteps:=4000000) (maxDischargeDepth:=8) -implicitDefEqProofs [*,-Int.not_le,-Int.not_lt,amLt]|with_reducible (first|apply cB|apply iB)<;>intro _|intro _)
    ·rw [if_neg cs]
     by_cases cab:a=b
     ·subst cab
      have e:ra=rb:=by rw [ha] at hb;exact Option.some.inj hb
      subst e
      have q0:integerK ra.kind=false:=by simpa using hcii
      rw [q0] at ia
      simp only [true_and,not_or] at cs
      obtain ⟨k1,k2,k3,k4⟩:=cs
      have e0:anyB ra=false:=by unfold anyB;simp [k1]
      rw [e0] at va
      rw [if_neg (by rw [e0];simp),if_neg (by simp [k1])]
      rw [show decide (ra.kind=13)=false by simpa using k1] at pa
      rw [show decide (ra.kind=15∨ra.kind=16)=false by simp [k3,k4]] at ca
      generalize ra.kind=k at *
      clear hC ha hb hh hh2 ek ek2 vb ib pb h2 nb cii hcii q0 e0
      repeat (any_goals first|simp -dsimp (maxSteps:=4000000) (maxDischargeDepth:=8) -implicitDefEqProofs [*,-Int.not_le,-Int.not_lt,amLt]|with_reducible (first|apply cB|apply iB)<;>intro _|intro _)
     ·have er:(if anyB ra=true∧rb.kind=13 then (a,(0:Int)) else if ra.kind=13∧anyB rb=true then (b,0) else (0,70))=if (anyB ra && decide (rb.kind=13))=true then (a,0) else if (decide (ra.kind=13) && anyB rb)=true then (b,0) else (0,70):=by simp
      rw [er]
      generalize integerK ra.kind=q at *
      generalize integerK rb.kind=w at *
      generalize anyB ra=e at *
      generalize anyB rb=f at *
      generalize decide (ra.kind=13)=p at *
      generalize decide (rb.kind=13)=r at *
      clear hC ha hb hh hh2 ek ek2 na nb ca cii cs er
      cases q
      ·clear hcii
       cases e<;>cases f<;>cases p<;>cases r
       repeat (any_goals first|simp -dsimp (maxSteps:=4000000) (maxDischargeDepth:=8) -implicitDefEqProofs [*,-Int.not_le,-Int.not_lt,amLt]|with_reducible (first|apply cB|apply iB)<;>intro _|intro _)
      ·simp only [Bool.true_and] at hcii
       subst hcii
       cases e<;>cases f<;>cases p<;>cases r
       repeat (any_goals first|simp -dsimp (maxSteps:=4000000) (maxDischargeDepth:=8) -implicitDefEqProofs [*,-Int.not_le,-Int.not_lt,amLt]|with_reducible (first|apply cB|apply iB)<;>intro _|intro _)
theorem done_rec2 (h:AccP t) {id:Int} {r:TR} (hg:getT t id=some r) (hd:r.done=true):r.kind=15∨r.kind=16:=(acc_kind h (getT_some hg).2).2.2.2.1 hd
theorem rassign_ok (hacc:AccP t) (H:Heap) (hC:H[C]?=some (.cells [.is (t.map trow) c])) (a b:Int) :
  Ccall tab 23 [.mp C 0,.int .i64 a,.int .i64 b] H=some (.int .i64 (assignA t a b),H):=by
 have h1:=rhas_ok hC a
 have h2:=rhas_ok hC b
 have ia:=rinteger_ok hC a
 have ib:=rinteger_ok hC b
 have pa:=rptr_ok H hC a
 have pb:=rptr_ok H hC b
 have ca:=rrecord_ok hC a
 rw [int_of] at ia ib
 unfold assignA
 cases ha:getT t a with
 | none =>
  have hh:hasS t a=false:=by unfold hasS;rw [ha];rfl
  rw [hh] at h1
  refine Ccall_over rfl rfl rfl rfl ?_
  clear hacc hC ia ib pa pb ca ha hh h2
  repeat (any_goals first|simp -dsimp (maxSteps:=4000000) (maxDischargeDepth:=8) -implicitDefEqProofs [*,-Int.not_le,-Int.not_lt,amLt]|with_reducible (first|apply cB|apply iB)<;>intro _|intro _)
 | some ra =>
  have hh:hasS t a=true:=by unfold hasS;rw [ha];rfl
  rw [hh] at h1
  have ek:=kind_of ha
  rw [ek] at ia pa ca
  have va:=rvoid_ok H hC ha
  cases hb:getT t b with
  | none =>
   have hh2:hasS t b=false:=by unfold hasS;rw [hb];rfl
   rw [hh2] at h2
   refine Ccall_over rfl rfl rfl rfl ?_
   clear hacc hC ia ib pa pb ca ha hb hh hh2 va ek
   repeat (any_goals first|simp -dsimp (maxSteps:=4000000) (maxDischargeDepth:=8) -implicitDefEqProofs [*,-Int.not_le,-Int.not_lt,amLt]|with_reducible (first|apply cB|apply iB)<;>intro _|intro _)
  | some rb =>
   have hh2:hasS t b=true:=by unfold hasS;rw [hb];rfl
   rw [hh2] at h2
   have ek2:=kind_of hb
   rw [ek2] at ib pb
   have vb:=rvoid_ok H hC hb
   obtain ⟨g0,gi⟩:=getT_some ha
   have hrow:(t.map trow)[a.toNat]?=some (trow ra):=by rw [List.getElem?_map,gi];rfl
   have hrow2:∀ hh:a.toNat<(t.map trow).length,(t.map trow)[a.toNat]=trow ra:=fun hh=>(List.getElem?_eq_some_iff.1 hrow).2
   have lr:=(List.getElem?_eq_some_iff.1 hrow).1
   have hlt:a<((t.map trow).length:Int):=by omega
   have hdr:ra.done=true→(ra.kind=15∨ra.kind=16):=fun q=>done_rec2 hacc ha q
   have er:assignS a b ra rb=if (integerK ra.kind && integerK rb.kind)=true then 0 else if (decide (ra.kind=13) && decide (rb.kind=13) && (decide (a=b) || anyB ra || anyB rb))=true then 0 else if (decide (ra.kind=15∨ra.kind=16) && decide (a=b) && ra.done)=true then 0 else 70:=by
    unfold assignS alikeB
    have:(decide (a=b) && ra.done)=(decide (ra.kind=15∨ra.kind=16) && decide (a=b) && ra.done):=by
     cases hd:ra.done with
     | false=>simp
     | true=>simp [hdr hd]
    rw [this]
    generalize (integerK ra.kind && integerK rb.kind)=x1
    generalize (decide (ra.kind=13) && decide (rb.kind=13) && (decide (a=b) || anyB ra || anyB rb))=x2
    generalize (decide (ra.kind=15∨ra.kind=16) && decide (a=b) && ra.done)=x3
    cases x1<;>cases x2<;>cases x3<;>rfl
   dsimp only
   rw [er]
   have hab:a=b→integerK ra.kind=integerK rb.kind∧decide (ra.kind=13)=decide (rb.kind=13)∧anyB ra=anyB rb:=fun q=>by
    subst q
    have e:ra=rb:=by rw [ha] at hb;exact Option.some.inj hb
    subst e
    exact ⟨rfl,rfl,rfl⟩
   refine Ccall_over rfl rfl rfl rfl ?_
   generalize t.map trow=X at *
   unfold trow at hrow hrow2
   generalize integerK ra.kind=q at *
   generalize integerK rb.kind=w at *
   generalize anyB ra=e at *
   generalize anyB rb=f at *
   generalize decide (ra.kind=13)=p at *
   generalize decide (rb.kind=13)=r at *
   generalize decide (ra.kind=15∨ra.kind=16)=rc at *
   generalize ra.done=dn at *
   clear hacc ha hb hh hh2 ek ek2 gi lr hdr er
   by_cases cab:a=b
   ·obtain ⟨z1,z2,z3⟩:=hab cab
    subst z1 z2 z3 cab
    clear hab
    cases q<;>cases p<;>cases rc<;>cases dn<;>cases e
    repeat (any_goals first|simp -dsimp (maxSteps:=4000000) (maxDischargeDepth:=8) -implicitDefEqProofs [*,-Int.not_le,-Int.not_lt,amLt]|with_reducible (first|apply cB|apply iB)<;>intro _|intro _)
   ·clear hab
    rw [show decide (a=b)=false by simpa using cab]
    cases q<;>cases w<;>cases p<;>cases r<;>cases e<;>cases f<;>cases rc
    repeat (any_goals first|simp -dsimp (maxSteps:=4000000) (maxDischargeDepth:=8) -implicitDefEqProofs [*,-Int.not_le,-Int.not_lt,amLt]|with_reducible (first|apply cB|apply iB)<;>intro _|intro _)
theorem rcast_ok (H:Heap) (hC:H[C]?=some (.cells [.is (t.map trow) c])) (a b:Int) :
  Ccall tab 24 [.mp C 0,.int .i64 a,.int .i64 b] H=some (.int .i64 (castA t a b),H):=by
 have h1:=rhas_ok hC a
 have h2:=rhas_ok hC b
 have ia:=rinteger_ok hC a
 have ib:=rinteger_ok hC b
 have pa:=rptr_ok H hC a
 have pb:=rptr_ok H hC b
 have na:=rkind_ok hC a
 rw [int_of] at ia ib
 unfold castA
 cases ha:getT t a with
 | none =>
  have hh:hasS t a=false:=by unfold hasS;rw [ha];rfl
  rw [hh] at h1
  refine Ccall_over rfl rfl rfl rfl ?_
  clear hC ia ib pa pb na ha hh h2
  repeat (any_goals first|simp -dsimp (maxSteps:=4000000) (maxDischargeDepth:=8) -implicitDefEqProofs [*,-Int.not_le,-Int.not_lt,amLt]|with_reducible (first|apply cB|apply iB)<;>intro _|intro _)
 | some ra =>
  have hh:hasS t a=true:=by unfold hasS;rw [ha];rfl
  rw [hh] at h1
  have ek:=kind_of ha
  rw [ek] at ia pa na
  cases hb:getT t b with
  | none =>
   have hh2:hasS t b=false:=by unfold hasS;rw [hb];rfl
   rw [hh2] at h2
   refine Ccall_over rfl rfl rfl rfl ?_
   clear hC ia ib pa pb na ha hb hh hh2 ek
   repeat (any_goals first|simp -dsimp (maxSteps:=4000000) (maxDischargeDepth:=8) -implicitDefEqProofs [*,-Int.not_le,-Int.not_lt,amLt]|with_reducible (first|apply cB|apply iB)<;>intro _|intro _)
  | some rb =>
   have hh2:hasS t b=true:=by unfold hasS;rw [hb];rfl
   rw [hh2] at h2
   have ek2:=kind_of hb
   rw [ek2] at ib pb
   have er:castS ra rb=if ra.kind=1 then 0 else if (integerK ra.kind && integerK rb.kind)=true then 0 else if (decide (ra.kind=13) && decide (rb.kind=13))=true then 0 else if ra.kind=2∧decide (rb.kind=13)=true then 0 else 70:=by
    unfold castS
    by_cases x1:ra.kind=1
    ·simp [x1]
    ·by_cases x2:(integerK ra.kind && integerK rb.kind)=true
     ·simp [x2]
     ·by_cases x3:ra.kind=13
      ·by_cases x4:rb.kind=13
       ·simp [x3,x4]
       ·simp only [x2,x3,x4];simp
      ·by_cases x5:ra.kind=2
       ·by_cases x4:rb.kind=13
        ·simp [x5,x4]
        ·simp only [x2,x5,x4];simp
       ·simp only [x1,x2,x3,x5];simp
   dsimp only
   rw [er]
   refine Ccall_over rfl rfl rfl rfl ?_
   generalize integerK ra.kind=q at *
   generalize integerK rb.kind=w at *
   generalize decide (ra.kind=13)=p at *
   generalize decide (rb.kind=13)=r at *
   generalize ra.kind=k at *
   clear hC ha hb hh hh2 ek ek2 er
   by_cases k1:k=1
   ·subst k1
    repeat (any_goals first|simp -dsimp (maxSteps:=4000000) (maxDischargeDepth:=8) -implicitDefEqProofs [*,-Int.not_le,-Int.not_lt,amLt]|with_reducible (first|apply cB|apply iB)<;>intro _|intro _)
   ·by_cases k2:k=2
    ·subst k2
     cases q<;>cases w<;>cases p<;>cases r
     repeat (any_goals first|simp -dsimp (maxSteps:=4000000) (maxDischargeDepth:=8) -implicitDefEqProofs [*,-Int.not_le,-Int.not_lt,amLt]|with_reducible (first|apply cB|apply iB)<;>intro _|intro _)
    ·cases q<;>cases w<;>cases p<;>cases r
     repeat (any_goals first|simp -dsimp (maxSteps:=4000000) (maxDischargeDepth:=8) -implicitDefEqProofs [*,-Int.not_le,-Int.not_lt,amLt]|with_reducible (first|apply cB|apply iB)<;>intro _|intro _)
end
end Go.Proofs.YtfhijkapcdmdnaaGreatDoor
