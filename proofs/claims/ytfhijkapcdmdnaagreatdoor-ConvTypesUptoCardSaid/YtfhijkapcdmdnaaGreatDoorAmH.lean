/- The abstract machine: what an operation answers is what the model's operation answers. Fifth part: append, copy, clear, len. -/
import Derived.Test.YtfhijkapcdmdnaaGreatDoorAmG
namespace Go.AM
section
variable {P:Program} {o:Oper} {a:Act} {w:World} {phi:Phi} {im:Imm} {h:Heap} {env:Env} {slot:Nat} {v:AV} {h':Heap}
theorem exec_builtin {b:Builtin} {args:Array Operand} {ats:Array TypeId} (ho:o.op = .call ⟨.builtin b,args,ats⟩) :
  execOp a.eval o=builtin b ats o.type (args.map fun | .const _=>true|_=>false) (args.map a.eval):=by
 simp only [execOp,ho,resolve];rfl
theorem flat_len {sz:Nat}:∀ {rows:List (List AV)},(∀ row ∈ rows,row.length=sz)→rows.flatten.length=rows.length*sz:=by
 intro rows
 induction rows with
 | nil=>intro _;simp
 | cons r t ih =>
  intro hz
  rw [List.flatten_cons,List.length_append,ih (fun x hx=>hz x (by simp [hx])),hz r (by simp),List.length_cons,Nat.succ_mul,Nat.add_comm]
theorem flat_get {sz:Nat}:∀ {rows:List (List AV)},(∀ row ∈ rows,row.length=sz)→∀ j,j<rows.length*sz→∃ row,rows[j / sz]?=some row∧rows.flatten[j]?=row[j % sz]?:=by
 intro rows
 induction rows with
 | nil=>intro _ j hj;simp at hj
 | cons r t ih =>
  intro hz j hj
  have hr:r.length=sz:=hz r (by simp)
  rw [List.length_cons,Nat.succ_mul] at hj
  by_cases hlt:j<sz
  ·exact ⟨r,by rw [Nat.div_eq_of_lt hlt];rfl,by rw [List.flatten_cons,List.getElem?_append_left (by omega),Nat.mod_eq_of_lt hlt]⟩
  ·have hsz:0<sz:=by
    rcases Nat.eq_zero_or_pos sz with g|g
    ·subst g;simp at hj
    ·exact g
   obtain ⟨row,h1,h2⟩:=ih (fun x hx=>hz x (by simp [hx])) (j - sz) (by omega)
   refine ⟨row,?_,?_⟩
   ·have:j / sz=(j - sz) / sz+1:=by rw [← Nat.add_div_right _ hsz,Nat.sub_add_cancel (by omega)]
    rw [this];simpa using h1
   ·rw [List.flatten_cons,List.getElem?_append_right (by omega),hr,h2,← Nat.mod_eq_sub_mod (by omega)]
theorem load_rowR {R:AV→Value→Prop} {cs:List AV} {b ob n:Nat} (hc:∀ j,j<n→∃ u,w.cell? ⟨b,ob+j,none⟩=some u∧∀ y,cs[j]?=some y→R y u) :
  ∃ arr:Array Value,(∀ w2:World,w2.heap=w.heap→(loadCells ⟨b,ob,none⟩ n).run P w2 = .ok arr w2)∧arr.size=n∧∀ (j:Nat) y,j<n→cs[j]?=some y→R y (arr.getD j Go.undef):=by
 have hcell:∀ w2:World,w2.heap=w.heap→∀ x,w2.cell? x=w.cell? x:=fun w2 hw x=>by simp [World.cell?,hw]
 let f:Nat→Value:=fun j=>(w.cell? ⟨b,ob+j,none⟩).getD Go.undef
 refine ⟨((List.range n).map f).toArray,fun w2 hw=>run_loadCells w2 _ n f fun j hj=>?_,by simp,fun j y hj hy=>?_⟩
 ·obtain ⟨u,hu,_⟩:=hc j hj
  rw [add_off,hcell w2 hw,hu]
  simp [f,hu]
 ·obtain ⟨u,hu,hr⟩:=hc j hj
  have:((List.range n).map f).toArray.getD j Go.undef=u:=by simp [Array.getD_eq_getD_getElem?,hj,f,hu]
  rw [this];exact hr y hy
theorem load_row {cs:List AV} {b ob n:Nat} (hc:∀ j,j<n→∃ u,w.cell? ⟨b,ob+j,none⟩=some u∧∀ y,cs[j]?=some y→VR w phi im y u) :
  ∃ arr:Array Value,(∀ w2:World,w2.heap=w.heap→(loadCells ⟨b,ob,none⟩ n).run P w2 = .ok arr w2)∧arr.size=n∧∀ (j:Nat) y,j<n→cs[j]?=some y→VR w phi im y (arr.getD j Go.undef):=load_rowR hc
theorem first_zero {x:AV} {u:Value} (hv:VR w phi im x u) (hn:slen x=some 0) (sz:Nat) (w2:World):(Builtin.firstCells sz 0 u).run P w2 = .ok #[] w2:=by
 cases x with
 | is rows cap =>
  obtain ⟨base,b,ob,s2,rcap,rfl,_⟩:=hv.rows_inv
  cases base<;>simp [Builtin.firstCells,loadCells,loadCellsFrom]
 | str s=>rw [hv.str_inv];simp [Builtin.firstCells]
 | ms id off len s cap ex =>
  obtain ⟨b,sh,ob,rcap,el,n,rfl,_⟩:=hv.ms_inv
  simp [Builtin.firstCells,loadCells,loadCellsFrom]
 | _=>simp [slen] at hn
theorem len_run {x:AV} {u:Value} (hv:VR w phi im x u) {n:Nat} (hn:slen x=some n) (w2:World):(Builtin.lenOf u).run P w2 = .ok n w2:=by
 cases x with
 | is rows cap =>
  cases hn
  obtain ⟨base,b,ob,s2,rcap,rfl,_⟩:=hv.rows_inv
  rfl
 | str s=>cases hn;rw [hv.str_inv];simp [Builtin.lenOf,ByteArray.size]
 | ms id off len s cap ex =>
  cases hn
  obtain ⟨b,sh,ob,rcap,el,n,rfl,_⟩:=hv.ms_inv
  rfl
 | _=>simp [slen] at hn
theorem rows_cells {rows:List (List AV)} {base:Option Addr} {b ob s2 rcap:Nat} (hb:0<rcap→base=some ⟨b,ob,none⟩) (hl:rows.length≤rcap) (hr:RowsAt w im rows b ob s2) {m:Nat} (hm:m≤rows.length) :
  ∃ arr:Array Value,(∀ w2:World,w2.heap=w.heap→(Builtin.firstCells s2 m (.slice base rows.length rcap)).run P w2 = .ok arr w2)∧arr.size=m*s2∧∀ (j:Nat) y,j<m*s2→rows.flatten[j]?=some y→IR w im y (arr.getD j Go.undef):=by
 rcases Nat.eq_zero_or_pos rcap with hc0|hc0
 ·have hm0:m=0:=by omega
  subst hm0
  exact ⟨#[],fun w2 _=>by cases base<;>simp [Builtin.firstCells,loadCells,loadCellsFrom],by simp,fun j y hj _=>by simp at hj⟩
 obtain rfl:=hb hc0
 have hmm:m*s2≤rows.length*s2:=Nat.mul_le_mul_right _ hm
 obtain ⟨arr,h1,h2,h3⟩:=load_rowR (P:=P) (w:=w) (R:=IR w im) (cs:=rows.flatten) (b:=b) (ob:=ob) (n:=m*s2) (fun j hj=>by
  obtain ⟨row,g1,g2⟩:=flat_get hr.1 j (by omega)
  have hsz0:0<s2:=by
   rcases Nat.eq_zero_or_pos s2 with g|g
   ·subst g;simp at hj
   ·exact g
  have hmod:j % s2<row.length:=by rw [hr.1 row (List.mem_of_getElem? g1)];exact Nat.mod_lt _ hsz0
  have g3:row[j % s2]?=some row[j % s2]:=List.getElem?_eq_getElem hmod
  obtain ⟨_,u,k1,k2⟩:=hr.2 _ row _ _ g1 g3
  rw [show ob+j / s2*s2+j % s2=ob+j by have:=Nat.div_add_mod j s2;rw [Nat.mul_comm] at this;omega] at k1
  refine ⟨u,k1,fun y hy=>?_⟩
  rw [g2,g3] at hy
  cases hy
  exact k2)
 exact ⟨arr,h1,h2,h3⟩
theorem rows_sz {rows:List (List AV)} {b ob s2 sz:Nat} (hr:RowsAt w im rows b ob s2) (hs:rowsz sz rows=true):rows=[]∨s2=sz:=by
 cases rows with
 | nil=>exact .inl rfl
 | cons r t =>
  have h1:=hr.1 r (by simp)
  simp only [rowsz,List.all_cons,Bool.and_eq_true,beq_iff_eq] at hs
  exact .inr (by rw [← h1];exact hs.1)
theorem scells_ok {x:AV} {u:Value} (hv:VR w phi im x u) (s:SR w phi im h) {sz n:Nat} (hsz:ssz sz x=true) (hn:slen x=some n) {k:List AV→HC} {r:AV × Heap} (hr:(scells x k).run slot h=some r) :
  ∃ cs,(k cs).run slot h=some r∧cs.length=n*sz∧∀ m,m≤n →
   ∃ arr:Array Value,(∀ w2:World,w2.heap=w.heap→(Builtin.firstCells sz m u).run P w2 = .ok arr w2)∧arr.size=m*sz∧∀ (j:Nat) y,j<m*sz→cs[j]?=some y→VR w phi im y (arr.getD j Go.undef):=by
 cases x with
 | is rows cap =>
  cases hn
  obtain ⟨base,b,ob,s2,rcap,rfl,hb,hl,hrows,_⟩:=hv.rows_inv
  have hss:rowsz sz rows=true:=hsz
  rcases rows_sz hrows hss with rfl|rfl
  ·refine ⟨[],hr,by simp,fun m hm=>?_⟩
   obtain rfl:m=0:=by simpa using hm
   exact ⟨#[],fun w2 _=>by cases base<;>simp [Builtin.firstCells,loadCells,loadCellsFrom],by simp,fun j y hj _=>by simp at hj⟩
  ·exact ⟨rows.flatten,hr,flat_len hrows.1,fun m hm=>by
    obtain ⟨arr,k1,k2,k3⟩:=rows_cells (P:=P) hb hl hrows hm
    exact ⟨arr,k1,k2,fun j y hj hy => .imm (k3 j y hj hy)⟩⟩
 | str st =>
  cases hn
  have hs2:sz=1:=by simpa [ssz] using hsz
  subst hs2
  refine ⟨ofBytes st,hr,by simp [ofBytes],fun m hm=>⟨((⟨st.toArray⟩:ByteArray).extract 0 m).data.map fun b => .int .u8 b.toNat,fun w2 _=>by rw [hv.str_inv];rfl,by simp;omega,fun j y hj hy=>?_⟩⟩
  simp only [ofBytes,List.getElem?_map,Option.map_eq_some_iff] at hy
  obtain ⟨b,hb,rfl⟩:=hy
  have hlt:=set_lt hb
  rw [List.getElem?_eq_getElem hlt] at hb
  cases hb
  have:(((⟨st.toArray⟩:ByteArray).extract 0 m).data.map fun b=>(Value.int .u8 b.toNat)).getD j Go.undef = .int .u8 st[j].toNat:=by
   simp [Array.getD_eq_getD_getElem?,show j<m by omega,hlt]
  rw [this]
  exact .int _ _
 | ms id off len s2 cap ex =>
  have hn':len=n:=by simpa [slen] using hn
  subst hn'
  have hs2:s2=sz:=by simpa [ssz] using hsz
  subst hs2
  obtain ⟨blk,hb,hfree,hk⟩:=run_rd hr
  split at hk
  ·rename_i cs
   split at hk
   ·rename_i hle
    obtain ⟨b,sh,ob,rcap,el,n,rfl,hp,hoff,hsh,hnn,hcap,hx,hl⟩:=hv.ms_inv
    refine ⟨_,hk,by simp;omega,fun m hm=>?_⟩
    have hmm:m*s2≤len*s2:=Nat.mul_le_mul_right _ hm
    by_cases hpos:0<rcap
    ·have:=hoff hpos
     subst this
     obtain ⟨arr,h1,h2,h3⟩:=load_row (P:=P) (w:=w) (phi:=phi) (im:=im) (cs:=(cs.drop off).take (len*s2)) (b:=b) (ob:=sh+off) (n:=m*s2) (fun j hj=>by
      have hlt:off+j<cs.length:=by omega
      obtain ⟨u,hu,hrel⟩:=s.cell hb hp (off+j) _ (List.getElem?_eq_getElem hlt)
      refine ⟨u,by rw [Nat.add_assoc];exact hu,fun y hy=>?_⟩
      rw [List.getElem?_take_of_lt (by omega),List.getElem?_drop,List.getElem?_eq_getElem hlt] at hy
      cases hy;exact hrel)
     exact ⟨arr,h1,h2,h3⟩
    ·have hm0:m=0:=by omega
     subst hm0
     exact ⟨#[],fun w2 _=>by simp [Builtin.firstCells,loadCells,loadCellsFrom],by simp,fun j y hj _=>by simp at hj⟩
   ·cases hk
  ·cases hk
 | _=>simp [slen] at hn
theorem growBy_le (newLen:Nat):∀ (r c:Nat),c≤2*newLen+192→c<newLen∨c≤newLen+newLen / 4+192→Builtin.growBy newLen r c≤newLen+newLen / 4+192∨Builtin.growBy newLen r c<newLen:=by
 intro r
 induction r with
 | zero=>intro c _ h;simp only [Builtin.growBy];omega
 | succ r ih =>
  intro c hc h
  simp only [Builtin.growBy]
  split
  ·omega
  ·exact ih _ (by omega) (by omega)
theorem nextcap_le {need cap:Nat} (h:cap<need):Builtin.nextslicecap need cap≤2*need:=by
 unfold Builtin.nextslicecap
 split
 ·omega
 ·split
  ·omega
  ·have:=growBy_le need 4 cap (by omega) (by omega)
   omega
theorem append_grow {ats:Array TypeId} {t ut el:TypeId} {sz by_:Nat} {z:List AV} (hat:ats=#[t,ut]) (hu:P.underlying t=some (.slice el)) (hut:isIntT P ut=some false) (hs:tsize P el=some sz) (hb:tbytes P el=some by_) (hz:zcells P el=some z)
  (hzl:z.length=sz) (h1:1≤by_) {base:Option Addr} {sLen sCap n:Nat} {x:Value} (hlen:∀ w2:World,(Builtin.lenOf x).run P w2 = .ok n w2) (hgrow:sCap<sLen+n) (hroom:(sLen+n)*by_≤140737488355328)
  {old new:Array Value} (hold:∀ w2:World,w2.heap=w.heap→(Builtin.firstCells sz sLen (.slice base sLen sCap)).run P w2 = .ok old w2) (hos:old.size=sLen*sz)
  (hnew:∀ w2:World,w2.heap=w.heap→(Builtin.firstCells sz n x).run P w2 = .ok new w2) (hns:new.size=n*sz) (ty:TypeId) :
  ∃ (c:Array Value) (rcap:Nat),(Builtin.append_ ats ty #[.slice base sLen sCap,x]).run P w = .ok (.slice (some ⟨w.heap.size,0,none⟩) (sLen+n) rcap) { w with heap:=w.heap.push (.cells c el),drawn:=w.drawn+1 } ∧
   sLen+n≤rcap∧c.size=rcap*sz∧∀ j,j<(sLen+n)*sz→c.getD j Go.undef=if j<sLen*sz then old.getD j Go.undef else new.getD (j - sLen*sz) Go.undef:=by
 obtain ⟨zv,hrun,hsz,hval⟩:=zcells_ok hz
 simp only [tbytes,Option.map_eq_some_iff] at hb
 obtain ⟨ti,hti,rfl⟩:=hb
 have hint:∃ d,P.underlying ut=some d∧∀ k,d ≠ .int k:=by
  cases hd:P.underlying ut with
  | none=>simp [isIntT,hd] at hut
  | some d =>
   refine ⟨d,rfl,fun k hk=>?_⟩
   subst hk
   simp [isIntT,hd] at hut
 obtain ⟨d,hd,hdk⟩:=hint
 let newCap:=(Question.appendCap (sLen+n) sCap el).cut (w.tape w.drawn (.appendCap (sLen+n) sCap el))
 have hge:sLen+n≤newCap:=grownCap_ge _ _ _ _
 refine ⟨old ++ new ++ Builtin.zeroCells zv.cells (newCap - (sLen+n)),newCap,?_,hge,?_,?_⟩
 ·subst hat
  unfold Builtin.append_
  simp only [List.getElem?_toArray,List.getElem?_cons_zero,List.getElem?_cons_succ,Sem.run_bind,und_ok hu,Result.andThen_ok,tsize_ok hs,und_ok hd,Sem.run_pure]
  rw [if_neg (by cases d<;>first|exact absurd rfl (hdk _)|simp)]
  simp only [hlen,Result.andThen_ok,Sem.run_bind]
  rw [if_neg (by omega)]
  simp only [Sem.run_bind,typeInfo,run_program,Result.andThen_ok,hti,Sem.run_pure]
  rw [if_neg (by simp;omega)]
  have hnc:Builtin.nextslicecap (sLen+n) sCap*ti.bytes≤2 ^ 48:=by
   have:=nextcap_le hgrow
   have h2:Builtin.nextslicecap (sLen+n) sCap*ti.bytes≤2*(sLen+n)*ti.bytes:=Nat.mul_le_mul_right _ this
   rw [Nat.mul_assoc] at h2
   omega
  simp only [Sem.run_bind,Result.andThen_ok,run_program,hti,Sem.run_pure]
  rw [if_neg (by omega)]
  simp only [Sem.run_bind,run_choose,Question.forced,Bool.false_eq_true,if_false,Result.andThen_ok,run_askRoom,Bool.not_false,if_true,hold { w with drawn:=w.drawn+1 } rfl,hnew { w with drawn:=w.drawn+1 } rfl,hrun,newRow,run_newObj,Sem.run_pure,run_program,hti]
  rfl
 ·simp only [Array.size_append,hos,hns]
  have:(Builtin.zeroCells zv.cells (newCap - (sLen+n))).size=(newCap - (sLen+n))*sz:=by simp [Builtin.zeroCells,hsz,hzl]
  rw [this,← Nat.add_mul,← Nat.add_mul]
  congr 1;omega
 ·intro j hj
  have e1:(sLen+n)*sz=sLen*sz+n*sz:=Nat.add_mul _ _ _
  by_cases c1:j<sLen*sz
  ·rw [if_pos c1]
   simp [Array.getD_eq_getD_getElem?,Array.getElem?_append,hos,c1]
  ·rw [if_neg c1]
   simp [Array.getD_eq_getD_getElem?,Array.getElem?_append,hos,hns,c1,show j - sLen*sz<n*sz by omega]
end
end Go.AM
