/- The abstract machine: what an operation answers is what the model's operation answers. Third part: reads, stores, numbers, texts, places. -/
import Derived.Test.YtfhijkapcdmdnaaGreatDoorAmE
namespace Go.AM
variable {G:GTab}
section
variable {P:Program} {o:Oper} {a:Act} {w:World} {phi:Phi} {im:Imm} {h:Heap} {env:Env} {slot:Nat} {v:AV} {h':Heap}
theorem good_load {t:TypeId} {x:Operand} {g:Bool} {sz:Nat} {y:AO} (ho:o.op = .load t x) (hg:tagg P t=some g) (hs:tsize P t=some sz) (hx:compO G x=some y) (e:ER G w phi im env a.tmps) (s:SR w phi im h)
  (hr:(aop slot env (.load g sz y)).run slot h=some (v,h')):Good P o a w phi im v h':=by
 have hv:=compO_ok e hx
 simp only [aop] at hr
 split at hr
 ·rename_i row off hq
  rw [hq] at hv
  obtain ⟨u,hu,hr'⟩:=run_ofOpt hr
  cases hr'
  have hi:=hv.ip_inv
  generalize hav:a.eval x=av at hi
  cases hi with
  | ip _ _ b ob vs hle hbi hcell hrel =>
   obtain ⟨rv,h1,h2⟩:=cget_ok (w:=w) (phi:=phi) (im:=im) hg hs (b:=b) (o:=ob - off) (fun j x hj=>⟨vs j,hcell j x hj,.imm (hrel j x hj)⟩) hu
   rw [show ob - off+off=ob by omega] at h1
   exact .here s (by simp only [execOp,ho,Instr.loadAt,hav,Instr.sureAddr,Sem.run_bind,Sem.run_pure,Result.andThen_ok,h1]) h2
 ·rename_i id off hq
  rw [hq] at hv
  obtain ⟨b,sh,hp,hav⟩:=hv.mp_inv
  obtain ⟨blk,hb,_,hk⟩:=run_rd hr
  split at hk
  ·rename_i cs
   obtain ⟨u,hu,hr'⟩:=run_ofOpt hk
   cases hr'
   obtain ⟨rv,h1,h2⟩:=cget_ok hg hs (fun j x hj=>s.cell hb hp j x hj) hu
   exact .here s (by simp only [execOp,ho,Instr.loadAt,hav,Instr.sureAddr,Sem.run_bind,Sem.run_pure,Result.andThen_ok,h1]) h2
  ·cases hk
 ·cases hr
theorem setCells_heap (b:Nat):∀ (vs:List Value) (o:Nat) (w:World) (c:Array Value) (e:TypeId) (fz:Nat × Nat),w.heap[b]?=some (.cells c e fz)→o+vs.length≤c.size →
  ∃ c',Wrote w (w.setCells b o vs) b c e fz c'∧∀ i,c'.getD i Go.undef=if o≤i∧i<o+vs.length then vs.getD (i - o) Go.undef else c.getD i Go.undef:=by
 intro vs
 induction vs with
 | nil =>
  intro o w c e fz hb _
  exact ⟨c,⟨rfl,rfl,rfl,rfl,hb,hb,fun _ _=>rfl,rfl⟩,fun i=>by rw [if_neg (by simp)]⟩
 | cons x r ih =>
  intro o w c e fz hb hl
  simp only [List.length_cons] at hl
  have h1:(w.setCell ⟨b,o,none⟩ x).heap[b]?=some (.cells (c.setIfInBounds o x) e fz):=by
   simp [World.setCell,Array.getElem?_modify,hb]
  obtain ⟨c',hw,hg⟩:=ih (o+1) (w.setCell ⟨b,o,none⟩ x) (c.setIfInBounds o x) e fz h1 (by simp;omega)
  refine ⟨c',⟨hw.os,hw.tape,hw.output,by rw [show w.setCells b o (x :: r)=(w.setCell ⟨b,o,none⟩ x).setCells b (o+1) r from rfl,hw.size];simp [World.setCell],hb,hw.now,fun k hk=>?_,by rw [hw.len];simp⟩,fun i=>?_⟩
  ·rw [show w.setCells b o (x :: r)=(w.setCell ⟨b,o,none⟩ x).setCells b (o+1) r from rfl,hw.other k hk]
   simp only [World.setCell,Array.getElem?_modify]
   rw [if_neg (by omega)]
  ·rw [hg i]
   by_cases c1:o+1≤i∧i<o+1+r.length
   ·rw [if_pos c1,if_pos (by simp;omega),show i - o=(i - (o+1))+1 by omega]
    simp
   ·rw [if_neg c1]
    by_cases c2:i=o
    ·subst c2
     rw [if_pos (by simp)]
     simp [Array.getD_eq_getD_getElem?,show i<c.size by omega]
    ·rw [if_neg (by simp;omega)]
     simp [Array.getD_eq_getD_getElem?,show ¬ o=i by omega]
theorem SR.stored (s:SR w phi im h) {id:Nat} {cs:List AV} (hi:h[id]?=some (.cells cs)) {b sh:Nat} (hp:phi id=some (b,sh)) {off:Nat} {xs:List AV} {vs:List Value}
  (hn:vs.length=xs.length) (hl:off+xs.length≤cs.length) (hv:∀ (j:Nat) x,xs[j]?=some x→VR w phi im x (vs.getD j Go.undef)) (hsc:∀ u ∈ vs,u.oneCell'=true) :
  (storeCells ⟨b,sh+off,none⟩ vs).run P w = .ok () (w.setCells b (sh+off) vs) ∧
  SR (w.setCells b (sh+off) vs) phi im (h.set id (.cells (splice cs off xs)))∧Post w phi im (w.setCells b (sh+off) vs) phi im:=by
 obtain ⟨b',sh',c,e,fz,h1,h2,h3,h4,h5,h6⟩:=s.cells id cs hi
 rw [hp] at h1
 cases h1
 obtain ⟨c',hw,hg⟩:=setCells_heap b vs (sh+off) w c e fz h2 (by omega)
 refine ⟨?_,s.write hi hp hw h5 (fun j hj=>by rw [hg,if_neg (by omega)]) (by rw [hw.len,splice_length (by omega)];omega) fun j x hj=>?_⟩
 ·have:=run_storeCells_cells (P:=P) b (sh+off) vs 0 w (fun j hj=>by
   have hlt:sh+off+j<c.size:=by omega
   simp [World.cell?,h2,hlt]) (fun j hj=>by
   have hlt:sh+off+j<c.size:=by omega
   have:=h5 _ hlt
   simp only [World.frozen?,h2,Nat.add_zero]
   simpa using this) hsc
  simpa using this
 ·rw [splice_get (by omega)] at hj
  rw [hg]
  by_cases c1:j<off
  ·rw [if_pos c1] at hj
   rw [if_neg (by omega)]
   exact h4 j x hj
  ·rw [if_neg c1] at hj
   by_cases c2:j<off+xs.length
   ·rw [if_pos c2] at hj
    rw [if_pos (by omega),show sh+j - (sh+off)=j - off by omega]
    exact hv _ x hj
   ·rw [if_neg c2] at hj
    rw [if_neg (by omega)]
    exact h4 j x hj
theorem sc_list {xs:List AV} {vs:Array Value} (hn:vs.size=xs.length) (hv:∀ (i:Nat) y,xs[i]?=some y→VR w phi im y (vs.getD i Go.undef)) (hs:xs.all isSc=true):∀ u ∈ vs.toList,u.oneCell'=true:=by
 intro u hu
 obtain ⟨i,hi,rfl⟩:=List.mem_iff_getElem.1 hu
 simp at hi
 have hx:xs[i]?=some xs[i]:=List.getElem?_eq_getElem (by omega)
 have h1:=hv i _ hx
 have h2:isSc xs[i]=true:=List.all_eq_true.1 hs _ (List.getElem_mem _)
 have:=isSc_ok h1 h2
 simpa [Array.getD_eq_getD_getElem?,hi] using this
theorem good_store {t:TypeId} {x y:Operand} {sz:Nat} {p q:AO} (ho:o.op = .store t x y) (hs:tsize P t=some sz) (hx:compO G x=some p) (hy:compO G y=some q) (e:ER G w phi im env a.tmps) (s:SR w phi im h)
  (hr:(aop slot env (.store sz p q)).run slot h=some (v,h')):Good P o a w phi im v h':=by
 have hv:=compO_ok e hx
 have hu:=compO_ok e hy
 simp only [aop] at hr
 split at hr
 ·rename_i id off xs hq hc
  rw [hq] at hv
  obtain ⟨b,sh,hp,hav⟩:=hv.mp_inv
  split at hr
  ·rename_i hcond
   obtain ⟨blk,hb,_,hk⟩:=run_rd hr
   split at hk
   ·rename_i cs
    split at hk
    ·rename_i hle
     obtain ⟨b0,hb0,_,hk'⟩:=run_wr hk
     cases run_done hk'
     obtain ⟨hl,hcv⟩:=cellsOf_ok hu hc
     obtain ⟨r1,r2,r3⟩:=s.stored (P:=P) hb hp (off:=off) (xs:=xs) (vs:=(a.eval y).cells.toList) (by simpa using hl) (by omega) (fun j x hj=>by
      have:=hcv j x hj
      simpa [Array.getD_eq_getD_getElem?] using this) (sc_list hl hcv hcond.2)
     refine ⟨.skip,Go.undef,_,phi,im,?_,.inr ⟨rfl,rfl⟩,.undef _,r2,r3⟩
     simp only [execOp,ho,Instr.storeAt,hav,Instr.sureAddr,Sem.run_bind,Sem.run_pure,Result.andThen_ok,storeVar,tsize_ok hs]
     rw [if_neg (by simp;omega)]
     simp only [Result.andThen_ok,r1]
    ·cases hk
   ·cases hk
  ·cases hr
 ·cases hr
theorem good_nilCheck {x:Operand} {y:AO} (ho:o.op = .nilCheck x) (hx:compO G x=some y) (e:ER G w phi im env a.tmps) (s:SR w phi im h)
  (hr:(aop slot env (.nilCheck y)).run slot h=some (v,h')):Good P o a w phi im v h':=by
 have hv:=compO_ok e hx
 simp only [aop] at hr
 split at hr
 ·rename_i id off hq
  rw [hq] at hv
  cases run_done hr
  obtain ⟨b,sh,hp,hav⟩:=hv.mp_inv
  exact .here s (by simp [execOp,ho,hav]) (hav ▸ hv)
 ·rename_i row off hq
  rw [hq] at hv
  cases run_done hr
  have hi:=hv.ip_inv
  generalize hav:a.eval x=av at hi hv
  cases hi with
  | ip _ _ b ob vs hle hbi hcell hrel=>exact .here s (by simp [execOp,ho,hav]) hv
 ·cases hr
theorem loop_eq (bs:ByteArray):∀ (n i:Nat) (r:List UInt8),bs.size - i=n→ByteArray.toList.loop bs i r=r.reverse ++ bs.data.toList.drop i:=by
 intro n
 induction n with
 | zero =>
  intro i r h
  have hle:bs.data.size≤i:=by have:bs.size=bs.data.size:=rfl;omega
  unfold ByteArray.toList.loop
  rw [if_neg (by have:bs.size=bs.data.size:=rfl;omega),List.drop_eq_nil_of_le (by simpa using hle)]
  simp
 | succ n ih =>
  intro i r h
  have hlt:i<bs.data.size:=by have:bs.size=bs.data.size:=rfl;omega
  unfold ByteArray.toList.loop
  rw [if_pos (by have:bs.size=bs.data.size:=rfl;omega),ih (i+1) _ (by omega)]
  have:bs.get! i=bs.data[i]:=by show bs.data[i]! = bs.data[i];exact getElem!_pos bs.data i hlt
  rw [this]
  have hd:bs.data.toList.drop i=bs.data[i] :: bs.data.toList.drop (i+1):=by
   rw [List.drop_eq_getElem_cons (by simpa using hlt)];rfl
  rw [hd]
  simp
theorem toList_mk (s:List UInt8):(⟨s.toArray⟩:ByteArray).toList=s:=by
 rw [ByteArray.toList,loop_eq _ _ _ _ rfl]
 simp
theorem abin_ok {op:BinOp} {x y z:AV} {u v:Value} (hx:VR w phi im x u) (hy:VR w phi im y v) (hb:abin op x y=some z) {t:TypeId}
  (p q:Operand) :
  ∃ rv,((do eqGuard op t p q u v;binOp op t u v):Sem Value).run P w = .ok rv w∧VR w phi im z rv:=by
 unfold abin at hb
 split at hb
 ·rename_i k a k' b
  cases hx.int_inv
  cases hy.int_inv
  have hguard:∀ op' t',(eqGuard op' t' p q (.int k a) (.int k' b)).run P w = .ok () w:=by
   intro op' t'
   unfold eqGuard
   cases op'<;>rfl
  simp only [Sem.run_bind,hguard,Result.andThen_ok]
  split at hb
  ·split at hb
   ·cases hb
   ·rename_i hn
    cases hb
    exact ⟨_,by simp [binOp,Op.shift,hn],.int _ _⟩
  ·split at hb
   ·cases hb
   ·rename_i hn
    cases hb
    exact ⟨_,by simp [binOp,Op.shift,hn],.int _ _⟩
  ·split at hb
   ·cases hb
   ·rename_i hk
    have hk:k=k':=by simpa using hk
    subst hk
    split at hb<;>(try cases hb)<;>(try (split at hb<;>cases hb))<;>simp only [binOp,ne_eq,not_true_eq_false,if_false]
    all_goals first
     | exact ⟨_,rfl,.int _ _⟩
     | exact ⟨_,rfl,.bool _⟩
     | (rename_i hn;simp only [Op.intDiv,if_neg hn];exact ⟨_,rfl,.int _ _⟩)
 ·rename_i a b
  cases hx.str_inv
  cases hy.str_inv
  have hguard:∀ op' t',(eqGuard op' t' p q (.string ⟨a.toArray⟩) (.string ⟨b.toArray⟩)).run P w = .ok () w:=by
   intro op' t'
   unfold eqGuard
   cases op'<;>rfl
  simp only [Sem.run_bind,hguard,Result.andThen_ok]
  split at hb
  ·split at hb
   ·rename_i hle
    cases hb
    refine ⟨_,?_,.str _⟩
    simp only [binOp,Op.stringOp]
    rw [if_neg (by simp [IntKind.max,IntKind.bits,IntKind.signed,ByteArray.size];omega)]
    simp only [Sem.run_pure,Result.ok.injEq,Value.string.injEq,and_true]
    apply ByteArray.ext
    simp
   ·cases hb
  all_goals first
   | (cases hb;exact ⟨_,by simp only [binOp,Op.stringOp,toList_mk];rfl,.bool _⟩)
   | cases hb
 ·cases hb
theorem good_bin {op:BinOp} {t yt:TypeId} {x y:Operand} {p q:AO} (ho:o.op = .binOp op t x y yt) (hx:compO G x=some p) (hy:compO G y=some q) (e:ER G w phi im env a.tmps) (s:SR w phi im h)
  (hr:(aop slot env (.bin op p q)).run slot h=some (v,h')):Good P o a w phi im v h':=by
 obtain ⟨z,hz,hr'⟩:=run_ofOpt hr
 cases hr'
 obtain ⟨rv,h1,h2⟩:=abin_ok (P:=P) (t:=t) (compO_ok e hx) (compO_ok e hy) hz x y
 refine .here s (rv:=rv) ?_ h2
 simp only [execOp,ho,Sem.run_bind] at h1 ⊢
 simp only [h1,Result.andThen_ok,Sem.run_pure]
theorem good_un {op:UnOp} {t:TypeId} {x:Operand} {p:AO} (ho:o.op = .unOp op t x) (hx:compO G x=some p) (e:ER G w phi im env a.tmps) (s:SR w phi im h)
  (hr:(aop slot env (.un op p)).run slot h=some (v,h')):Good P o a w phi im v h':=by
 obtain ⟨z,hz,hr'⟩:=run_ofOpt hr
 cases hr'
 have hv:=compO_ok e hx
 unfold aun at hz
 split at hz
 ·rename_i k n hq
  rw [hq] at hv
  cases hz
  exact .here s (by simp only [execOp,ho,Op.unary,hv.int_inv,Op.intArith,Sem.run_bind,Sem.run_pure,Result.andThen_ok]) (.int _ _)
 ·rename_i k n hq
  rw [hq] at hv
  cases hz
  exact .here s (by simp only [execOp,ho,Op.unary,hv.int_inv,Op.intBits,Sem.run_bind,Sem.run_pure,Result.andThen_ok]) (.int _ _)
 ·rename_i b hq
  rw [hq] at hv
  cases hz
  exact .here s (by simp only [execOp,ho,Op.unary,hv.bool_inv,Sem.run_bind,Sem.run_pure,Result.andThen_ok]) (.bool _)
 ·cases hz
theorem good_extract {x:Operand} {i:Nat} {p:AO} (ho:o.op = .extract x i) (hx:compO G x=some p) (e:ER G w phi im env a.tmps) (s:SR w phi im h)
  (hr:(aop slot env (.extract p i)).run slot h=some (v,h')):Good P o a w phi im v h':=by
 have hv:=compO_ok e hx
 simp only [aop] at hr
 split at hr
 ·rename_i vs hq
  rw [hq] at hv
  obtain ⟨z,hz,hr'⟩:=run_ofOpt hr
  cases hr'
  obtain ⟨rs,hav,hn,hrel⟩:=hv.tup_inv
  have hlt:=set_lt hz
  have hg:rs[i]?=some (rs.getD i Go.undef):=by simp [Array.getD_eq_getD_getElem?,show i<rs.size by omega]
  refine .here s (rv:=rs.getD i Go.undef) ?_ (hrel i _ hz)
  simp only [execOp,ho,Instr.extract,hav,hg,Sem.run_bind,Sem.run_pure,Result.andThen_ok]
 ·cases hr
theorem add_off (b o n:Nat):(⟨b,o,none⟩:Addr).add n=⟨b,o+n,none⟩:=by
 unfold Addr.add;split<;>simp_all
theorem IR.ip_add {row:List AV} {off b ob:Nat} (hv:IR w im (.ip row off) (.pointer (some ⟨b,ob,none⟩))) (n:Nat):IR w im (.ip row (off+n)) (.pointer (some ⟨b,ob+n,none⟩)):=by
 cases hv with
 | ip _ _ _ _ vs hle hbi hc hr=>exact .ip row (off+n) b (ob+n) vs (by omega) (fun j x hj=>by rw [show ob+n - (off+n)=ob - off by omega];exact hbi j x hj) (fun j x hj=>by rw [show ob+n - (off+n)=ob - off by omega];exact hc j x hj) hr
theorem good_fieldAddr {t:TypeId} {fs:Array Field} {f:Nat} {g:Field} {sz:Nat} {x:Operand} {p:AO} (ho:o.op = .fieldAddr t x f) (hu:P.underlying t=some (.struct fs)) (hf:fs[f]?=some g) (hs:tsize P g.type=some sz) (hz:sz≠0)
  (hx:compO G x=some p) (e:ER G w phi im env a.tmps) (s:SR w phi im h)
  (hr:(aop slot env (.fieldAddr g.offset p)).run slot h=some (v,h')):Good P o a w phi im v h':=by
 have hv:=compO_ok e hx
 have key:∀ b ob,a.eval x = .pointer (some ⟨b,ob,none⟩)→(execOp a.eval o).run P w = .ok (.value (.pointer (some ⟨b,ob+g.offset,none⟩))) w:=fun b ob hav=>by
  simp only [execOp,ho,Instr.fieldAt,Sem.run_bind,und_ok hu,Result.andThen_ok,hf,hav,Instr.sureAddr,Sem.run_pure,fieldPlace,tsize_ok hs]
  rw [if_neg hz]
  simp only [Sem.run_pure,Result.andThen_ok,add_off]
 simp only [aop] at hr
 split at hr
 ·rename_i id off hq
  rw [hq] at hv
  cases run_done hr
  obtain ⟨b,sh,hp,hav⟩:=hv.mp_inv
  exact .here s (key b _ hav) (by rw [Nat.add_assoc];exact .mp id _ b sh hp)
 ·rename_i row off hq
  rw [hq] at hv
  cases run_done hr
  have hi:=hv.ip_inv
  generalize hav:a.eval x=av at hi
  cases hi with
  | ip _ _ b ob vs hle hbi hcell hrel=>exact .here s (key b ob hav) (.imm (IR.ip_add (.ip row off b ob vs hle hbi hcell hrel) _))
 ·cases hr
theorem part_ok {t:TypeId} {g:Bool} {size:Nat} (hg:tagg P t=some g) (hs:tsize P t=some size) {cs:List AV} {vs:Array Value} (hn:vs.size=cs.length) (hrel:∀ (i:Nat) x,cs[i]?=some x→VR w phi im x (vs.getD i Go.undef)) {off:Nat} {z:AV}
  (hz:cget g size off cs=some z):∃ rv,(part t vs off).run P w = .ok rv w∧VR w phi im z rv:=by
 unfold cget at hz
 cases g with
 | true =>
  simp only [if_true] at hz
  split at hz
  ·rename_i hle
   cases hz
   refine ⟨.agg (vs.extract off (off+size)),by simp only [part,Sem.run_bind,tagg_ok hg,Result.andThen_ok,if_true,tsize_ok hs,Sem.run_pure],.agg _ _ (by simp;omega) fun i x hx=>?_⟩
   have hi:i<size:=by
    rcases Nat.lt_or_ge i size with q|q
    ·exact q
    ·rw [List.getElem?_eq_none (by simp;omega)] at hx;cases hx
   rw [List.getElem?_take_of_lt hi,List.getElem?_drop] at hx
   have:=hrel _ x hx
   have e2:(vs.extract off (off+size)).getD i Go.undef=vs.getD (off+i) Go.undef:=by
    simp [Array.getD_eq_getD_getElem?,show i<size by omega,show min (off+size) vs.size - off=size by omega,show off+i<vs.size by omega]
   rw [e2];exact this
  ·cases hz
 | false =>
  simp only [Bool.false_eq_true,if_false] at hz
  have hlt:=set_lt hz
  have hgd:vs[off]?=some (vs.getD off Go.undef):=by simp [Array.getD_eq_getD_getElem?,show off<vs.size by omega]
  refine ⟨vs.getD off Go.undef,?_,hrel off z hz⟩
  simp only [part,Sem.run_bind,tagg_ok hg,Result.andThen_ok,Bool.false_eq_true,if_false,hgd,Sem.run_pure]
theorem good_field {t:TypeId} {fs:Array Field} {f:Nat} {g:Field} {ag:Bool} {sz:Nat} {x:Operand} {p:AO} (ho:o.op = .field t x f) (hu:P.underlying t=some (.struct fs)) (hf:fs[f]?=some g) (hg:tagg P g.type=some ag) (hs:tsize P g.type=some sz)
  (hx:compO G x=some p) (e:ER G w phi im env a.tmps) (s:SR w phi im h)
  (hr:(aop slot env (.field ag g.offset sz p)).run slot h=some (v,h')):Good P o a w phi im v h':=by
 have hv:=compO_ok e hx
 simp only [aop] at hr
 split at hr
 ·rename_i cs hq
  rw [hq] at hv
  obtain ⟨z,hz,hr'⟩:=run_ofOpt hr
  cases hr'
  obtain ⟨rs,hav,hn,hrel⟩:=hv.agg_inv
  obtain ⟨rv,h1,h2⟩:=part_ok hg hs hn hrel hz
  refine .here s (rv:=rv) ?_ h2
  simp only [execOp,ho,Instr.field,Sem.run_bind,und_ok hu,Result.andThen_ok,hf,hav,asAgg,Sem.run_pure,h1]
 ·cases hr
theorem good_index {t:TypeId} {n:Nat} {el:TypeId} {ag:Bool} {sz:Nat} {x i:Operand} {p q:AO} (ho:o.op = .index t x i) (hu:P.underlying t=some (.array n el)) (hg:tagg P el=some ag) (hs:tsize P el=some sz)
  (hx:compO G x=some p) (hi:compO G i=some q) (e:ER G w phi im env a.tmps) (s:SR w phi im h)
  (hr:(aop slot env (.index ag n sz p q)).run slot h=some (v,h')):Good P o a w phi im v h':=by
 have hv:=compO_ok e hx
 have hj:=compO_ok e hi
 simp only [aop] at hr
 split at hr
 ·rename_i cs k m hq hq2
  rw [hq] at hv
  rw [hq2] at hj
  split at hr
  ·rename_i hle
   obtain ⟨z,hz,hr'⟩:=run_ofOpt hr
   cases hr'
   obtain ⟨rs,hav,hn,hrel⟩:=hv.agg_inv
   obtain ⟨rv,h1,h2⟩:=part_ok hg hs hn hrel hz
   refine .here s (rv:=rv) ?_ h2
   simp only [execOp,ho,Instr.index,Sem.run_bind,und_ok hu,Result.andThen_ok,hav,hj.int_inv,asIntOf,Sem.run_pure]
   rw [if_pos hle]
   simp only [Sem.run_bind,tsize_ok hs,Result.andThen_ok,h1]
  ·cases hr
 ·cases hr
theorem good_strIndex {t:TypeId} {x i:Operand} {p q:AO} (ho:o.op = .index t x i) (hu:P.underlying t=some .string)
  (hx:compO G x=some p) (hi:compO G i=some q) (e:ER G w phi im env a.tmps) (s:SR w phi im h)
  (hr:(aop slot env (.strIndex p q)).run slot h=some (v,h')):Good P o a w phi im v h':=by
 have hv:=compO_ok e hx
 have hj:=compO_ok e hi
 simp only [aop] at hr
 split at hr
 ·rename_i st k m hq hq2
  rw [hq] at hv
  rw [hq2] at hj
  split at hr
  ·rename_i hle
   split at hr
   ·rename_i b hb
    cases run_done hr
    refine .here s (rv:= .int .u8 b.toNat) ?_ (.int _ _)
    have hlt:=set_lt hb
    have hget:(⟨st.toArray⟩:ByteArray)[m.toNat]?=some b:=by
     have hsz:m.toNat<(⟨st.toArray⟩:ByteArray).size:=by simpa [ByteArray.size] using hlt
     rw [getElem?_pos (⟨st.toArray⟩:ByteArray) m.toNat hsz]
     have:(⟨st.toArray⟩:ByteArray)[m.toNat]=st[m.toNat]:=rfl
     rw [this]
     rw [List.getElem?_eq_getElem hlt] at hb
     exact hb
    simp only [execOp,ho,Instr.index,Sem.run_bind,und_ok hu,Result.andThen_ok,hv.str_inv,hj.int_inv,asIntOf,Sem.run_pure,if_pos hle,hget]
   ·cases hr
  ·cases hr
 ·cases hr
theorem good_idxSl {t:TypeId} {el:TypeId} {sz:Nat} {x i:Operand} {p q:AO} (ho:o.op = .indexAddr t x i) (hu:P.underlying t=some (.slice el)) (hs:tsize P el=some sz)
  (hx:compO G x=some p) (hi:compO G i=some q) (e:ER G w phi im env a.tmps) (s:SR w phi im h)
  (hr:(aop slot env (.idxAddr sz p q)).run slot h=some (v,h')):Good P o a w phi im v h':=by
 have hv:=compO_ok e hx
 have hj:=compO_ok e hi
 have key:∀ (b ob len cap:Nat) (k:IntKind) (m:Int),a.eval x = .slice (some ⟨b,ob,none⟩) len cap→a.eval i = .int k m→0≤m→m<len →
   (execOp a.eval o).run P w = .ok (.value (.pointer (some ⟨b,ob+m.toNat*sz,none⟩))) w:=fun b ob len cap k m h1 h2 h3 h4=>by
  simp only [execOp,ho,Instr.indexAt,Sem.run_bind,und_ok hu,Result.andThen_ok,h1,h2,asIntOf,Sem.run_pure]
  rw [if_pos ⟨h3,h4⟩]
  simp only [Sem.run_bind,tsize_ok hs,Result.andThen_ok,Sem.run_pure,add_off]
 simp only [aop] at hr
 split at hr
 ·rename_i rows cap k m hq hq2
  rw [hq] at hv
  rw [hq2] at hj
  split at hr
  ·rename_i hm
   split at hr
   ·rename_i row hrow
    split at hr
    ·rename_i hrl
     cases run_done hr
     have hlt:=set_lt hrow
     obtain ⟨base,b,ob,s2,rcap,vs,hav,hb,hz,hl,hi',hcell,hrel,_⟩:=hv.is_inv
     have hs2:s2=sz:=by rw [← hrl];exact (hz row (List.mem_of_getElem? hrow)).symm
     subst hs2
     have hbase:=hb (by omega)
     subst hbase
     refine .here s (key b ob _ rcap k m hav hj.int_inv hm (by omega)) (.imm (.ip row 0 b _ (vs m.toNat) (Nat.zero_le _) (fun j y hj=>?_) (fun j y hj=>?_) (fun j y hj=>hrel _ row j y hrow hj)))
     ·rw [Nat.sub_zero];exact hi' _ row j y hrow hj
     ·rw [Nat.sub_zero];exact hcell _ row j y hrow hj
    ·cases hr
   ·cases hr
  ·cases hr
 ·rename_i id off len s' cap ex k m hq hq2
  rw [hq] at hv
  rw [hq2] at hj
  split at hr
  ·rename_i hc
   obtain ⟨rfl,hm,hlt⟩:=hc
   cases run_done hr
   obtain ⟨b,sh,ob,rcap,el',n,hav,hp,hoff,hsh,hn,hcap,hx',hl⟩:=hv.ms_inv
   have ho':ob=sh+off:=hoff (by omega)
   subst ho'
   refine .here s (key b _ len rcap k m hav hj.int_inv hm hlt) ?_
   rw [Nat.add_assoc]
   exact .mp id _ b sh hp
  ·cases hr
 ·cases hr
theorem good_idxArr {t:TypeId} {el:TypeId} {n sz:Nat} {x i:Operand} {p q:AO} (ho:o.op = .indexAddr t x i) (hu:P.underlying t=some (.array n el)) (hs:tsize P el=some sz)
  (hx:compO G x=some p) (hi:compO G i=some q) (e:ER G w phi im env a.tmps) (s:SR w phi im h)
  (hr:(aop slot env (.idxArr n sz p q)).run slot h=some (v,h')):Good P o a w phi im v h':=by
 have hv:=compO_ok e hx
 have hj:=compO_ok e hi
 have key:∀ (b ob:Nat) (k:IntKind) (m:Int),a.eval x = .pointer (some ⟨b,ob,none⟩)→a.eval i = .int k m→0≤m→m<n →
   (execOp a.eval o).run P w = .ok (.value (.pointer (some ⟨b,ob+m.toNat*sz,none⟩))) w:=fun b ob k m h1 h2 h3 h4=>by
  simp only [execOp,ho,Instr.indexAt,Sem.run_bind,und_ok hu,Result.andThen_ok,h1,h2,asIntOf,Instr.sureAddr,Sem.run_pure]
  rw [if_pos ⟨h3,h4⟩]
  simp only [Sem.run_bind,tsize_ok hs,Result.andThen_ok,Sem.run_pure,add_off]
 simp only [aop] at hr
 split at hr
 ·rename_i id off k m hq hq2
  rw [hq] at hv
  rw [hq2] at hj
  split at hr
  ·rename_i hc
   cases run_done hr
   obtain ⟨b,sh,hp,hav⟩:=hv.mp_inv
   exact .here s (key b _ k m hav hj.int_inv hc.1 hc.2) (by rw [Nat.add_assoc];exact .mp id _ b sh hp)
  ·cases hr
 ·rename_i row off k m hq hq2
  rw [hq] at hv
  rw [hq2] at hj
  split at hr
  ·rename_i hc
   cases run_done hr
   have hi':=hv.ip_inv
   generalize hav:a.eval x=av at hi'
   cases hi' with
   | ip _ _ b ob vs hle hbi hcell hrel=>exact .here s (key b ob k m hav hj.int_inv hc.1 hc.2) (.imm (IR.ip_add (.ip row off b ob vs hle hbi hcell hrel) _))
  ·cases hr
 ·cases hr
end
end Go.AM
