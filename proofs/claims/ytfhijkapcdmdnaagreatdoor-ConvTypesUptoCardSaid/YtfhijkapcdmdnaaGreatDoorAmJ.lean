/- The abstract machine: what an operation answers is what the model's operation answers. Seventh part: copy, clear, len, least and greatest, comparisons, texts out of bytes. -/
import Derived.Test.YtfhijkapcdmdnaaGreatDoorAmI
namespace Go.AM
variable {G:GTab}
section
variable {P:Program} {o:Oper} {a:Act} {w:World} {phi:Phi} {im:Imm} {h:Heap} {env:Env} {slot:Nat} {v:AV} {h':Heap}
theorem good_len {t:TypeId} {x:Operand} {p:AO} {k:Nat} (ho:o.op = .call ⟨.builtin .len,#[x],#[t]⟩) (hk:(k=0∧P.underlying t=some .string)∨(k=1∧∃ e,P.underlying t=some (.slice e))∨(k=2∧∃ q e,P.underlying t=some (.map q e)))
  (hx:compO G x=some p) (e:ER G w phi im env a.tmps) (s:SR w phi im h)
  (hr:(aop slot env (.len k p)).run slot h=some (v,h')):Good P o a w phi im v h':=by
 have hv:=compO_ok e hx
 have key:∀ n:Nat,(Builtin.len_ #[t] o.type #[a.eval x]).run P w = .ok (goInt n) w→(execOp a.eval o).run P w = .ok (.value (.int .i64 n)) w:=fun n hrun=>by
  rw [exec_builtin ho]
  simp only [builtin,List.map_toArray,List.map_cons,List.map_nil,Sem.run_bind,hrun,Result.andThen_ok,Sem.run_pure,goInt]
 simp only [aop] at hr
 split at hr
 ·rename_i st hq
  rw [hq] at hv
  cases run_done hr
  rcases hk with ⟨_,hu⟩|⟨h0,_⟩|⟨h0,_⟩
  ·refine .here s (key _ ?_) (.int _ _)
   have hsz:(⟨st.toArray⟩:ByteArray).size=st.length:=by simp [ByteArray.size]
   simp [Builtin.len_,und_ok hu,hv.str_inv,hsz,-ByteArray.size_data]
  ·cases h0
  ·cases h0
 ·rename_i rows cap hq
  rw [hq] at hv
  cases run_done hr
  rcases hk with ⟨h0,_⟩|⟨_,el,hu⟩|⟨h0,_⟩
  ·cases h0
  ·obtain ⟨base,b,ob,s2,rcap,hav,_⟩:=hv.rows_inv
   refine .here s (key _ ?_) (.int _ _)
   simp [Builtin.len_,und_ok hu,hav]
  ·cases h0
 ·rename_i id off len s2 cap ex hq
  rw [hq] at hv
  cases run_done hr
  rcases hk with ⟨h0,_⟩|⟨_,el,hu⟩|⟨h0,_⟩
  ·cases h0
  ·obtain ⟨b,sh,ob,rcap,el',n,hav,_⟩:=hv.ms_inv
   refine .here s (key _ ?_) (.int _ _)
   simp [Builtin.len_,und_ok hu,hav]
  ·cases h0
 ·rename_i hq
  rw [hq] at hv
  cases run_done hr
  rcases hk with ⟨h0,_⟩|⟨h0,_⟩|⟨_,q,el,hu⟩
  ·cases h0
  ·cases h0
  ·refine .here s (key 0 ?_) (.int _ _)
   simp [Builtin.len_,und_ok hu,hv.nilm_inv]
 ·rename_i id hq
  rw [hq] at hv
  obtain ⟨blk,hb,hfree,hk2⟩:=run_rd hr
  rcases hk with ⟨h0,_⟩|⟨h0,_⟩|⟨_,q,el,hu⟩
  ·cases h0
  ·cases h0
  ·split at hk2
   ·rename_i es ck
    cases run_done hk2
    obtain ⟨b,hp,hav⟩:=hv.mm_inv
    obtain ⟨b',res,g1,g2,g3,_⟩:=s.map id es ck hb
    rw [hp] at g1
    cases g1
    refine .here s (key _ ?_) (.int _ _)
    have hobj:(getObj b).run P w = .ok (.map res ck) w:=by simp [getObj,Sem.run,g2]
    simp [Builtin.len_,und_ok hu,hav,hobj,g3]
   ·cases hk2
 ·cases hr
theorem good_lenArr {t:TypeId} {x:Operand} {n:Nat} {el:TypeId} (ho:o.op = .call ⟨.builtin .len,#[x],#[t]⟩) (hu:P.underlying t=some (.array n el)) (s:SR w phi im h):Good P o a w phi im (.int .i64 n) h:=by
 refine .here s (rv:= .int .i64 n) ?_ (.int _ _)
 rw [exec_builtin ho]
 simp [builtin,Builtin.len_,und_ok hu,goInt]
theorem good_min {t:Array TypeId} {x y:Operand} {p q:AO} (ho:o.op = .call ⟨.builtin .min,#[x,y],t⟩) (hx:compO G x=some p) (hy:compO G y=some q) (e:ER G w phi im env a.tmps) (s:SR w phi im h)
  (hr:(aop slot env (.min p q)).run slot h=some (v,h')):Good P o a w phi im v h':=by
 have hvx:=compO_ok e hx
 have hvy:=compO_ok e hy
 simp only [aop] at hr
 split at hr
 ·rename_i k m k' n hq1 hq2
  rw [hq1] at hvx
  rw [hq2] at hvy
  cases run_done hr
  refine .here s (rv:= .int k (if n<m then n else m)) ?_ (.int _ _)
  rw [exec_builtin ho]
  simp [builtin,Builtin.min_,Builtin.min2,hvx.int_inv,hvy.int_inv]
 ·cases hr
theorem good_max {t:Array TypeId} {x y:Operand} {p q:AO} (ho:o.op = .call ⟨.builtin .max,#[x,y],t⟩) (hx:compO G x=some p) (hy:compO G y=some q) (e:ER G w phi im env a.tmps) (s:SR w phi im h)
  (hr:(aop slot env (.max p q)).run slot h=some (v,h')):Good P o a w phi im v h':=by
 have hvx:=compO_ok e hx
 have hvy:=compO_ok e hy
 simp only [aop] at hr
 split at hr
 ·rename_i k m k' n hq1 hq2
  rw [hq1] at hvx
  rw [hq2] at hvy
  cases run_done hr
  refine .here s (rv:= .int k (if m<n then n else m)) ?_ (.int _ _)
  rw [exec_builtin ho]
  simp [builtin,Builtin.max_,Builtin.max2,hvx.int_inv,hvy.int_inv]
 ·cases hr
theorem first_any {x:AV} {u:Value} (hv:VR w phi im x u) {n:Nat} (hn:slen x=some n) (sz:Nat) (w2:World):(Builtin.firstCells sz 0 u).run P w2 = .ok #[] w2:=by
 have hl:=len_run (P:=P) hv hn w
 cases u with
 | slice b l c=>cases b<;>simp [Builtin.firstCells,loadCells,loadCellsFrom]
 | string st=>simp [Builtin.firstCells]
 | _=>simp [Builtin.lenOf] at hl
theorem good_copy {t ut el:TypeId} {sz:Nat} {x y:Operand} {p q:AO} (ho:o.op = .call ⟨.builtin .copy,#[x,y],#[t,ut]⟩) (hu:P.underlying t=some (.slice el)) (hs:tsize P el=some sz)
  (hx:compO G x=some p) (hy:compO G y=some q) (e:ER G w phi im env a.tmps) (s:SR w phi im h)
  (hr:(aop slot env (.copy sz p q)).run slot h=some (v,h')):Good P o a w phi im v h':=by
 have hvx:=compO_ok e hx
 have hvy:=compO_ok e hy
 simp only [aop] at hr
 split at hr
 ·rename_i cap n hq hn
  rw [hq] at hvx
  cases run_done hr
  obtain ⟨base,b,ob,s2,rcap,hav,_⟩:=hvx.rows_inv
  refine .here s (rv:= .int .i64 0) ?_ (.int _ _)
  rw [exec_builtin ho]
  cases base<;>simp [builtin,Builtin.copy_,und_ok hu,hav,len_run hvy hn w,tsize_ok hs,first_any hvy hn,goInt,storeCells]
 ·rename_i id off len s2 cap ex n hq hn
  rw [hq] at hvx
  split at hr
  ·cases hr
  ·rename_i hss
   have hss:s2=sz∧ssz sz (ev env q)=true:=by simpa using hss
   obtain ⟨hs2,hss⟩:=hss
   subst hs2
   obtain ⟨b,sh,ob,rcap,el',nn,hav,hp,hoff,hsh,hnn,hcap,hx',hl⟩:=hvx.ms_inv
   split at hr
   ·rename_i hm0
    cases run_done hr
    refine .here s (rv:= .int .i64 0) ?_ (.int _ _)
    rw [exec_builtin ho]
    have hm:Nat.min n len=0:=hm0
    simp [builtin,Builtin.copy_,und_ok hu,hav,len_run hvy hn w,tsize_ok hs,hm,first_any hvy hn,goInt,storeCells]
   ·rename_i hm0
    obtain ⟨ys,hk,hyl,hnew⟩:=scells_ok (P:=P) hvy s hss hn hr
    split at hk
    ·cases hk
    ·rename_i hsc
     have hsc:ys.all isSc=true:=by simpa using hsc
     obtain ⟨blk,hb2,hfree,hk2⟩:=run_rd hk
     split at hk2
     ·rename_i cs
      split at hk2
      ·rename_i hle
       obtain ⟨b1,hb1,_,hk3⟩:=run_wr hk2
       cases run_done hk3
       have ho':=hoff (by omega)
       subst ho'
       obtain ⟨new,g1,g2,g3⟩:=hnew (min n len) (Nat.min_le_left _ _)
       have hmn:min n len*s2≤n*s2:=Nat.mul_le_mul_right _ (Nat.min_le_left _ _)
       have htl:(ys.take (min n len*s2)).length=min n len*s2:=by simp;omega
       have hrel:∀ (i:Nat) y,(ys.take (min n len*s2))[i]?=some y→VR w phi im y (new.getD i Go.undef):=fun i y hy=>by
        have hlt:=set_lt hy
        rw [htl] at hlt
        rw [List.getElem?_take_of_lt hlt] at hy
        exact g3 i y hlt hy
       obtain ⟨r1,r2,r3⟩:=s.stored (P:=P) hb2 hp (off:=off) (xs:=ys.take (min n len*s2)) (vs:=new.toList) (by simpa using (by omega:new.size=(ys.take (min n len*s2)).length)) (by omega)
        (fun j y hy=>by have:=hrel j y hy;simpa [Array.getD_eq_getD_getElem?] using this)
        (sc_list (by omega) hrel (by
         rw [List.all_eq_true] at hsc ⊢
         exact fun y hy=>hsc y (List.mem_of_mem_take hy)))
       refine ⟨_,.int .i64 (min n len:Nat),_,phi,im,?_,.inl rfl,.int _ _,r2,r3⟩
       rw [exec_builtin ho]
       have hmm:Nat.min n len=min n len:=rfl
       simp only [builtin,Builtin.copy_,List.map_toArray,List.map_cons,List.map_nil,List.getElem?_toArray,List.getElem?_cons_zero,List.getElem?_cons_succ,Sem.run_bind,und_ok hu,Result.andThen_ok,hav,len_run hvy hn w,tsize_ok hs,hmm,g1 w rfl,r1,Sem.run_pure,goInt]
      ·cases hk2
     ·cases hk2
 ·cases hr
theorem zero_cells {t:TypeId} {z:List AV} (hz:zcells P t=some z) {zv:Value} (hrun:∀ w,(zeroValue t).run P w = .ok zv w) (n:Nat):(Builtin.zeroCells zv.cells n).size=n*z.length ∧
  ∀ (j:Nat) x,(repeatCells n z)[j]?=some x→VR w phi im x ((Builtin.zeroCells zv.cells n).getD j Go.undef):=by
 obtain ⟨zv',hrun',hsz,hval⟩:=zcells_ok hz
 have hvv:zv=zv':=by have q1:=hrun w;rw [hrun' w] at q1;cases q1;rfl
 subst hvv
 refine ⟨by simp [Builtin.zeroCells,hsz],fun j x hj=>?_⟩
 have hlt:j<n*z.length:=by
  have:=set_lt hj
  rwa [repeat_length] at this
 rw [repeat_get z n j hlt] at hj
 have hzp:0<z.length:=by
  rcases Nat.eq_zero_or_pos z.length with g|g
  ·rw [g] at hlt;simp at hlt
  ·exact g
 unfold Builtin.zeroCells
 rw [zero_array _ _ _ (by rw [hsz];exact hlt) (by omega),hsz]
 exact .imm (hval w im _ x hj)
theorem good_clear {t el:TypeId} {sz:Nat} {z:List AV} {x:Operand} {p:AO} (ho:o.op = .call ⟨.builtin .clear,#[x],#[t]⟩) (hu:P.underlying t=some (.slice el)) (hz:zcells P el=some z)
  (hx:compO G x=some p) (e:ER G w phi im env a.tmps) (s:SR w phi im h)
  (hr:(aop slot env (.clear sz z p)).run slot h=some (v,h')):Good P o a w phi im v h':=by
 have hvx:=compO_ok e hx
 have done:∀ {w':World},(Builtin.clear_ #[t] o.type #[a.eval x]).run P w = .ok (.tuple #[]) w'→(execOp a.eval o).run P w = .ok (.value (.tuple #[])) w':=fun hrun=>by
  rw [exec_builtin ho]
  simp only [builtin,List.map_toArray,List.map_cons,List.map_nil,Sem.run_bind,hrun,Result.andThen_ok,Sem.run_pure]
 have tup:∀ (w':World) (phi':Phi),VR w' phi' im (.tup []) (.tuple #[]):=fun w' phi' => .tup [] #[] rfl fun i y hy=>by simp at hy
 simp only [aop] at hr
 split at hr
 ·rename_i cap hq
  rw [hq] at hvx
  cases run_done hr
  obtain ⟨base,b,ob,s2,rcap,hav,_⟩:=hvx.rows_inv
  exact .here s (done (by cases base<;>simp [Builtin.clear_,und_ok hu,hav])) (tup w phi)
 ·rename_i id off len s2 cap ex hq
  rw [hq] at hvx
  obtain ⟨b,sh,ob,rcap,el',nn,hav,hp,hoff,hsh,hnn,hcap,hx',hl⟩:=hvx.ms_inv
  split at hr
  ·rename_i hl0
   subst hl0
   cases run_done hr
   exact .here s (done (by simp [Builtin.clear_,und_ok hu,hav])) (tup w phi)
  ·rename_i hl0
   split at hr
   ·rename_i hcond
    obtain ⟨c1,c2,c3⟩:=hcond
    subst c1
    obtain ⟨blk,hb2,hfree,hk2⟩:=run_rd hr
    split at hk2
    ·rename_i cs
     split at hk2
     ·rename_i hle
      obtain ⟨b1,hb1,_,hk3⟩:=run_wr hk2
      cases run_done hk3
      have ho':=hoff (by omega)
      subst ho'
      obtain ⟨zv,hrun,hsz,hval⟩:=zcells_ok hz
      obtain ⟨z1,z2⟩:=zero_cells (w:=w) (phi:=phi) (im:=im) hz hrun len
      have hzl:(repeatCells len z).length=len*s2:=by rw [repeat_length,c2]
      obtain ⟨r1,r2,r3⟩:=s.stored (P:=P) hb2 hp (off:=off) (xs:=repeatCells len z) (vs:=(Builtin.zeroCells zv.cells len).toList) (by rw [Array.length_toList,z1,hzl,c2]) (by omega)
       (fun j y hy=>by have:=z2 j y hy;simpa [Array.getD_eq_getD_getElem?] using this)
       (sc_list (by rw [z1,hzl,c2]) z2 (by
        rw [List.all_eq_true] at c3 ⊢
        intro y hy
        simp only [repeatCells,List.mem_flatten,List.mem_replicate] at hy
        obtain ⟨l,⟨_,rfl⟩,hy⟩:=hy
        exact c3 y hy))
      refine ⟨_,.tuple #[],_,phi,im,done ?_,.inl rfl,tup _ _,r2,r3⟩
      have hl1:∃ k,len=k+1:=⟨len - 1,by omega⟩
      obtain ⟨k,rfl⟩:=hl1
      simp only [Builtin.clear_,List.getElem?_toArray,List.getElem?_cons_zero,Sem.run_bind,und_ok hu,Result.andThen_ok,hav,hrun,r1,Sem.run_pure]
     ·cases hk2
    ·cases hk2
   ·cases hr
 ·cases hr
theorem eqNil_ok {f:AV→Option Bool} {x y:AV} {b:Bool} (h:eqNil f x y=some b):(f x=some true∧f y=some b)∨(f y=some true∧f x=some b):=by
 unfold eqNil at h
 generalize hx:f x=a1 at h ⊢
 generalize hy:f y=a2 at h ⊢
 cases a1 with
 | none=>simp at h
 | some p =>
  cases a2 with
  | none=>cases p<;>simp at h
  | some q=>cases p<;>cases q<;>simp at h<;>subst h<;>simp
theorem nilP_ok {x:AV} {u:Value} (hv:VR w phi im x u) {b:Bool} (h:isNilP x=some b):∃ ad:Option Addr,u = .pointer ad∧ad.isNone=b:=by
 cases x with
 | nilp=>cases h;exact ⟨none,hv.nilp_inv,rfl⟩
 | ip row off=>cases h;have hi:=hv.ip_inv;cases hi;exact ⟨_,rfl,rfl⟩
 | mp id off=>cases h;obtain ⟨b,sh,_,hav⟩:=hv.mp_inv;exact ⟨_,hav,rfl⟩
 | _=>simp [isNilP] at h
theorem nilS_ok {x:AV} {u:Value} (hv:VR w phi im x u) {b:Bool} (h:isNilS x=some b):∃ (ad:Option Addr) (l c:Nat),u = .slice ad l c∧ad.isNone=b:=by
 cases x with
 | is rows cap =>
  obtain ⟨base,b',ob,s2,rcap,rfl,hbb,hl,hrows,hroom⟩:=hv.rows_inv
  refine ⟨base,_,_,rfl,?_⟩
  cases rows with
  | cons r t =>
   cases h
   simp only [List.length_cons] at hl
   rw [hbb (by omega)]
   rfl
  | nil =>
   cases cap with
   | nil=>cases h;obtain ⟨rfl,_⟩:=hroom;rfl
   | nn=>cases h;have hb:base.isSome=true:=hroom;(cases base with|none=>cases hb|some _=>rfl)
   | _=>cases h
 | ms id off len sz cap ex=>cases h;obtain ⟨b,sh,ob,rcap,el',nn,hav,_⟩:=hv.ms_inv;exact ⟨_,_,_,hav,rfl⟩
 | _=>simp [isNilS] at h
theorem nilI_ok {x:AV} {u:Value} (hv:VR w phi im x u) {b:Bool} (h:isNilI x=some b):(u = .nilIface∧b=true)∨(∃ ty z,u = .iface ty z∧b=false):=by
 cases x with
 | nili=>cases h;exact .inl ⟨hv.nili_inv,rfl⟩
 | ifc ty y=>cases h;obtain ⟨z,hav,_⟩:=hv.ifc_inv;exact .inr ⟨_,_,hav,rfl⟩
 | _=>simp [isNilI] at h
theorem nilM_ok {x:AV} {u:Value} (hv:VR w phi im x u) {b:Bool} (h:isNilM x=some b):∃ ad:Option Nat,u = .map ad∧ad.isNone=b:=by
 cases x with
 | nilm=>cases h;exact ⟨none,hv.nilm_inv,rfl⟩
 | mm id=>cases h;obtain ⟨b,_,hav⟩:=hv.mm_inv;exact ⟨_,hav,rfl⟩
 | _=>simp [isNilM] at h
theorem nilF_ok {x:AV} {u:Value} (hv:VR w phi im x u) {b:Bool} (h:isNilF x=some b):(u = .nilFunc∧b=true)∨(∃ f us c,u = .func f us c∧b=false):=by
 cases x with
 | nilf=>cases h;exact .inl ⟨hv.nilf_inv,rfl⟩
 | fn f first caps=>cases h;obtain ⟨us,vs,hav,_⟩:=hv.fn_inv;exact .inr ⟨_,_,_,hav,rfl⟩
 | _=>simp [isNilF] at h
structure EqRun (P:Program) (w:World) (t:TypeId) (u v:Value) (b:Bool):Prop where
 eq:∀ d,8≤d→(Op.equalIn (d+1) t u v).run P w = .ok b w
 guard:∀ op p q,(eqGuard op t p q u v).run P w = .ok () w
 e1:binOp .eql t u v=(do pure (.bool (← Op.equal t u v)):Sem Value)
 e2:binOp .neq t u v=(do pure (.bool (!(← Op.equal t u v))):Sem Value)
theorem equal_ok {t:TypeId} {k:EqK} {x y:AV} {u v:Value} (hx:VR w phi im x u) (hy:VR w phi im y v) {b:Bool} (hb:aeq k x y=some b)
  (hk:(k = .bool∧P.underlying t=some .bool)∨(k = .ptr∧∃ e,P.underlying t=some (.pointer e))∨(k = .slice∧∃ e,P.underlying t=some (.slice e))∨(k = .map∧∃ q e,P.underlying t=some (.map q e))∨(k = .func∧∃ p r z,P.underlying t=some (.func p r z))) :
  EqRun P w t u v b:=by
 rcases hk with ⟨rfl,hu⟩|⟨rfl,el,hu⟩|⟨rfl,el,hu⟩|⟨rfl,q,el,hu⟩|⟨rfl,p,r,z,hu⟩
 ·simp only [aeq] at hb
  split at hb
  ·cases hb
   cases hx.bool_inv
   cases hy.bool_inv
   exact ⟨fun d _=>by simp only [Op.equalIn,Sem.run_bind,und_ok hu,Result.andThen_ok,Sem.run_pure],fun op p q=>by cases op<;>rfl,rfl,rfl⟩
  ·cases hb
 ·rcases eqNil_ok hb with ⟨h1,h2⟩|⟨h1,h2⟩
  ·obtain ⟨ad,rfl,g1⟩:=nilP_ok hx h1
   obtain ⟨ad',rfl,g2⟩:=nilP_ok hy h2
   have:ad=none:=by simpa using g1
   subst this
   exact ⟨fun d _=>by simp only [Op.equalIn,Sem.run_bind,und_ok hu,Result.andThen_ok,Sem.run_pure,g2],fun op p q=>by cases op<;>rfl,rfl,rfl⟩
  ·obtain ⟨ad,rfl,g1⟩:=nilP_ok hy h1
   obtain ⟨ad',rfl,g2⟩:=nilP_ok hx h2
   have:ad=none:=by simpa using g1
   subst this
   cases ad' with
   | none=>exact ⟨fun d _=>by simp only [Op.equalIn,Sem.run_bind,und_ok hu,Result.andThen_ok,Sem.run_pure,← g2],fun op p q=>by cases op<;>rfl,rfl,rfl⟩
   | some w1=>exact ⟨fun d _=>by simp only [Op.equalIn,Sem.run_bind,und_ok hu,Result.andThen_ok,Sem.run_pure,← g2];rfl,fun op p q=>by cases op<;>rfl,rfl,rfl⟩
 ·rcases eqNil_ok hb with ⟨h1,h2⟩|⟨h1,h2⟩
  ·obtain ⟨ad,l,c,rfl,g1⟩:=nilS_ok hx h1
   obtain ⟨ad',l',c',rfl,g2⟩:=nilS_ok hy h2
   have:ad=none:=by simpa using g1
   subst this
   exact ⟨fun d _=>by simp only [Op.equalIn,Sem.run_bind,und_ok hu,Result.andThen_ok,Sem.run_pure,g2],fun op p q=>by cases op<;>rfl,rfl,rfl⟩
  ·obtain ⟨ad,l,c,rfl,g1⟩:=nilS_ok hy h1
   obtain ⟨ad',l',c',rfl,g2⟩:=nilS_ok hx h2
   have:ad=none:=by simpa using g1
   subst this
   cases ad' with
   | none=>exact ⟨fun d _=>by simp only [Op.equalIn,Sem.run_bind,und_ok hu,Result.andThen_ok,Sem.run_pure,← g2],fun op p q=>by cases op<;>rfl,rfl,rfl⟩
   | some w1=>exact ⟨fun d _=>by simp only [Op.equalIn,Sem.run_bind,und_ok hu,Result.andThen_ok,Sem.run_pure,← g2];rfl,fun op p q=>by cases op<;>rfl,rfl,rfl⟩
 ·rcases eqNil_ok hb with ⟨h1,h2⟩|⟨h1,h2⟩
  ·obtain ⟨ad,rfl,g1⟩:=nilM_ok hx h1
   obtain ⟨ad',rfl,g2⟩:=nilM_ok hy h2
   have:ad=none:=by simpa using g1
   subst this
   exact ⟨fun d _=>by simp only [Op.equalIn,Sem.run_bind,und_ok hu,Result.andThen_ok,Sem.run_pure,g2],fun op p q=>by cases op<;>rfl,rfl,rfl⟩
  ·obtain ⟨ad,rfl,g1⟩:=nilM_ok hy h1
   obtain ⟨ad',rfl,g2⟩:=nilM_ok hx h2
   have:ad=none:=by simpa using g1
   subst this
   cases ad' with
   | none=>exact ⟨fun d _=>by simp only [Op.equalIn,Sem.run_bind,und_ok hu,Result.andThen_ok,Sem.run_pure,← g2],fun op p q=>by cases op<;>rfl,rfl,rfl⟩
   | some w1=>exact ⟨fun d _=>by simp only [Op.equalIn,Sem.run_bind,und_ok hu,Result.andThen_ok,Sem.run_pure,← g2];rfl,fun op p q=>by cases op<;>rfl,rfl,rfl⟩
 ·have fin:∀ {u v:Value} {b:Bool},((u = .nilFunc∧v = .nilFunc∧b=true)∨(u = .nilFunc∧(∃ f us c,v = .func f us c)∧b=false)∨((∃ f us c,u = .func f us c)∧v = .nilFunc∧b=false))→EqRun P w t u v b:=by
   rintro u v b (⟨rfl,rfl,rfl⟩|⟨rfl,⟨f,us,c,rfl⟩,rfl⟩|⟨⟨f,us,c,rfl⟩,rfl,rfl⟩)
   ·exact ⟨fun d _=>by simp only [Op.equalIn,Sem.run_bind,und_ok hu,Result.andThen_ok,Sem.run_pure],fun op p q=>by cases op<;>rfl,rfl,rfl⟩
   ·exact ⟨fun d _=>by simp only [Op.equalIn,Sem.run_bind,und_ok hu,Result.andThen_ok,Sem.run_pure],fun op p q=>by cases op<;>rfl,rfl,rfl⟩
   ·exact ⟨fun d _=>by simp only [Op.equalIn,Sem.run_bind,und_ok hu,Result.andThen_ok,Sem.run_pure],fun op p q=>by cases op<;>rfl,rfl,rfl⟩
  rcases eqNil_ok hb with ⟨h1,h2⟩|⟨h1,h2⟩
  ·rcases nilF_ok hx h1 with ⟨rfl,_⟩|⟨f,us,c,rfl,g⟩
   ·rcases nilF_ok hy h2 with ⟨rfl,rfl⟩|⟨f,us,c,rfl,rfl⟩
    ·exact fin (.inl ⟨rfl,rfl,rfl⟩)
    ·exact fin (.inr (.inl ⟨rfl,⟨_,_,_,rfl⟩,rfl⟩))
   ·cases g
  ·rcases nilF_ok hy h1 with ⟨rfl,_⟩|⟨f,us,c,rfl,g⟩
   ·rcases nilF_ok hx h2 with ⟨rfl,rfl⟩|⟨f,us,c,rfl,rfl⟩
    ·exact fin (.inl ⟨rfl,rfl,rfl⟩)
    ·exact fin (.inr (.inr ⟨⟨_,_,_,rfl⟩,rfl,rfl⟩))
   ·cases g
theorem good_eqRun {op:BinOp} {t yt:TypeId} {x y:Operand} {b:Bool} (ho:o.op = .binOp op t x y yt) (hop:op = .eql∨op = .neq) (s:SR w phi im h)
  (hE:EqRun P w t (a.eval x) (a.eval y) b):Good P o a w phi im (.bool (if decide (op = .neq) then !b else b)) h:=by
 refine .here s ?_ (.bool _)
 have h10:(Op.equal t (a.eval x) (a.eval y)).run P w = .ok b w:=hE.eq 9999 (by omega)
 rcases hop with rfl|rfl
 ·simp only [execOp,ho,Sem.run_bind,hE.guard,Result.andThen_ok,hE.e1,h10,Sem.run_pure];rfl
 ·simp only [execOp,ho,Sem.run_bind,hE.guard,Result.andThen_ok,hE.e2,h10,Sem.run_pure];rfl
theorem good_eq {op:BinOp} {t yt:TypeId} {x y:Operand} {p q:AO} {k:EqK} (ho:o.op = .binOp op t x y yt) (hop:op = .eql∨op = .neq)
  (hk:(k = .bool∧P.underlying t=some .bool)∨(k = .ptr∧∃ e,P.underlying t=some (.pointer e))∨(k = .slice∧∃ e,P.underlying t=some (.slice e))∨(k = .map∧∃ q e,P.underlying t=some (.map q e))∨(k = .func∧∃ p r z,P.underlying t=some (.func p r z)))
  (hx:compO G x=some p) (hy:compO G y=some q) (e:ER G w phi im env a.tmps) (s:SR w phi im h)
  (hr:(aop slot env (.eq (decide (op = .neq)) k p q)).run slot h=some (v,h')):Good P o a w phi im v h':=by
 obtain ⟨z,hz,hr'⟩:=run_ofOpt hr
 cases hr'
 simp only [Option.map_eq_some_iff] at hz
 obtain ⟨b,hb,rfl⟩:=hz
 exact good_eqRun ho hop s (equal_ok (compO_ok e hx) (compO_ok e hy) hb hk)
theorem good_eqI {op:BinOp} {t yt:TypeId} {x y:Operand} {p q:AO} {ms:Array (String × TypeId)} (ho:o.op = .binOp op t x y yt) (hop:op = .eql∨op = .neq) (hu:P.underlying t=some (.interface ms)) (hc:(isC p || isC q)=true)
  (hx:compO G x=some p) (hy:compO G y=some q) (e:ER G w phi im env a.tmps) (s:SR w phi im h)
  (hr:(aop slot env (.eq (decide (op = .neq)) .iface p q)).run slot h=some (v,h')):Good P o a w phi im v h':=by
 obtain ⟨z,hz,hr'⟩:=run_ofOpt hr
 cases hr'
 simp only [Option.map_eq_some_iff] at hz
 obtain ⟨b,hb,rfl⟩:=hz
 have hvx:=compO_ok e hx
 have hvy:=compO_ok e hy
 have shape:(a.eval x = .nilIface∧a.eval y = .nilIface∧b=true)∨(a.eval x = .nilIface∧(∃ ty z,a.eval y = .iface ty z)∧b=false)∨((∃ ty z,a.eval x = .iface ty z)∧a.eval y = .nilIface∧b=false):=by
  rcases eqNil_ok hb with ⟨h1,h2⟩|⟨h1,h2⟩
  ·rcases nilI_ok hvx h1 with ⟨g1,_⟩|⟨ty,z,_,g⟩
   ·rcases nilI_ok hvy h2 with ⟨g2,rfl⟩|⟨ty,z,g2,rfl⟩
    ·exact .inl ⟨g1,g2,rfl⟩
    ·exact .inr (.inl ⟨g1,⟨_,_,g2⟩,rfl⟩)
   ·cases g
  ·rcases nilI_ok hvy h1 with ⟨g1,_⟩|⟨ty,z,_,g⟩
   ·rcases nilI_ok hvx h2 with ⟨g2,rfl⟩|⟨ty,z,g2,rfl⟩
    ·exact .inl ⟨g2,g1,rfl⟩
    ·exact .inr (.inr ⟨⟨_,_,g2⟩,g1,rfl⟩)
   ·cases g
 have key:∀ {z:Operand} {r:AO},compO G z=some r→isC r=true→(∃ c,z = .const c)∨a.eval z ≠ .nilIface:=fun {z r} hz hr=>by
  cases z with
  | const c=>exact .inl ⟨c,rfl⟩
  | tmp _=>cases hz;cases hr
  | global _=>exact .inr fun q=>by cases q
  | func f=>exact .inr fun q=>by cases q
 have guard:(eqGuard op t x y (a.eval x) (a.eval y)).run P w = .ok () w:=by
  rcases shape with ⟨g1,g2,_⟩|⟨g1,⟨ty,z,g2⟩,_⟩|⟨⟨ty,z,g1⟩,g2,_⟩
  ·simp only [Bool.or_eq_true] at hc
   rcases hc with g|g
   ·rcases key hx g with ⟨c,rfl⟩|g
    ·rw [g1,g2];rcases hop with rfl|rfl<;>rfl
    ·exact absurd g1 g
   ·rcases key hy g with ⟨c,rfl⟩|g
    ·rw [g1,g2];rcases hop with rfl|rfl<;>cases x<;>rfl
    ·exact absurd g2 g
  ·rw [g1,g2];rcases hop with rfl|rfl<;>rfl
  ·rw [g1,g2];rcases hop with rfl|rfl<;>rfl
 have heq0:∀ d,(Op.equalIn (d+1) t (a.eval x) (a.eval y)).run P w = .ok b w:=fun d=>by
  rcases shape with ⟨g1,g2,rfl⟩|⟨g1,⟨ty,z,g2⟩,rfl⟩|⟨⟨ty,z,g1⟩,g2,rfl⟩<;>rw [g1,g2]<;>simp only [Op.equalIn,Sem.run_bind,und_ok hu,Result.andThen_ok,Sem.run_pure]
 have heq:(Op.equal t (a.eval x) (a.eval y)).run P w = .ok b w:=heq0 9999
 have e1:binOp .eql t (a.eval x) (a.eval y)=(do pure (.bool (← Op.equal t (a.eval x) (a.eval y))):Sem Value):=by
  rcases shape with ⟨g1,g2,_⟩|⟨g1,⟨ty,z,g2⟩,_⟩|⟨⟨ty,z,g1⟩,g2,_⟩<;>rw [g1,g2]<;>rfl
 have e2:binOp .neq t (a.eval x) (a.eval y)=(do pure (.bool (!(← Op.equal t (a.eval x) (a.eval y)))):Sem Value):=by
  rcases shape with ⟨g1,g2,_⟩|⟨g1,⟨ty,z,g2⟩,_⟩|⟨⟨ty,z,g1⟩,g2,_⟩<;>rw [g1,g2]<;>rfl
 refine .here s ?_ (.bool _)
 rcases hop with rfl|rfl
 ·simp only [execOp,ho,Sem.run_bind,guard,Result.andThen_ok,e1,heq,Sem.run_pure];rfl
 ·simp only [execOp,ho,Sem.run_bind,guard,Result.andThen_ok,e2,heq,Sem.run_pure];rfl
end
end Go.AM
