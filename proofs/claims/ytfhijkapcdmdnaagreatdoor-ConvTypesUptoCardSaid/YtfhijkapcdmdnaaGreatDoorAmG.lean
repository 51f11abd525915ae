/- The abstract machine: what an operation answers is what the model's operation answers. Fourth part: slices and texts cut, closures, conversions, new slices. -/
import Derived.Test.YtfhijkapcdmdnaaGreatDoorAmF
import Derived.Laws.BytesString
import Derived.Lib.ConvBytes
import Derived.IntWalk
import Derived.Laws.AppendOwn
namespace Go.AM
variable {G:GTab}
section
variable {P:Program} {o:Oper} {a:Act} {w:World} {phi:Phi} {im:Imm} {h:Heap} {env:Env} {slot:Nat} {v:AV} {h':Heap}
theorem compOL_ok (e:ER G w phi im env a.tmps):∀ {l:List Operand} {m:List AO},compOL G l=some m→m.length=l.length∧∀ (i:Nat) x,m[i]?=some x→∃ y,l[i]?=some y∧VR w phi im (ev env x) (a.eval y):=by
 intro l
 induction l with
 | nil=>intro m h;cases h;exact ⟨rfl,fun i x hx=>by simp at hx⟩
 | cons p r ih =>
  intro m h
  simp only [compOL] at h
  split at h
  ·rename_i x l' h1 h2
   cases h
   obtain ⟨hl,hr⟩:=ih h2
   refine ⟨by simp [hl],fun i y hy=>?_⟩
   cases i with
   | zero=>simp at hy;subst hy;exact ⟨p,rfl,compO_ok e h1⟩
   | succ i=>simp at hy;obtain ⟨u,hu,hv⟩:=hr i y hy;exact ⟨u,by simpa using hu,hv⟩
  ·cases h
theorem evalL_ok (e:ER G w phi im env a.tmps) {l:Array Operand} {m:List AO} (hm:compOL G l.toList=some m):(l.map a.eval).size=(m.map (ev env)).length ∧
  ∀ (i:Nat) x,(m.map (ev env))[i]?=some x→VR w phi im x ((l.map a.eval).getD i Go.undef):=by
 obtain ⟨hl,hr⟩:=compOL_ok (a:=a) e hm
 refine ⟨by simp [hl],fun i x hx=>?_⟩
 rw [List.getElem?_map,Option.map_eq_some_iff] at hx
 obtain ⟨y,hy,rfl⟩:=hx
 obtain ⟨p,hp,hv⟩:=hr i y hy
 have:(l.map a.eval).getD i Go.undef=a.eval p:=by
  have:l[i]?=some p:=by simpa using hp
  simp [Array.getD_eq_getD_getElem?,this]
 rw [this];exact hv
theorem good_fn {f:Nat} {first captured:Array Operand} {l m:List AO} (ho:o.op = .makeFunc (.func f) first captured) (hf:compOL G first.toList=some l) (hm:compOL G captured.toList=some m) (e:ER G w phi im env a.tmps) (s:SR w phi im h)
  (hr:(aop slot env (.fn f l m)).run slot h=some (v,h')):Good P o a w phi im v h':=by
 cases run_done hr
 obtain ⟨h1,h2⟩:=evalL_ok (a:=a) e hf
 obtain ⟨h3,h4⟩:=evalL_ok (a:=a) e hm
 refine .here s (rv:= .func (.func f) (first.map a.eval) (captured.map a.eval)) ?_ (.fn f _ _ _ _ h1 h2 h3 h4)
 simp [execOp,ho,Instr.makeFunc]
theorem good_conv {src dst:TypeId} {j k:IntKind} {x:Operand} {p:AO} (ho:o.op = .convert src dst x) (h1:P.underlying src=some (.int j)) (h2:P.underlying dst=some (.int k)) (hx:compO G x=some p) (e:ER G w phi im env a.tmps) (s:SR w phi im h)
  (hr:(aop slot env (.conv k p)).run slot h=some (v,h')):Good P o a w phi im v h':=by
 have hv:=compO_ok e hx
 simp only [aop] at hr
 split at hr
 ·rename_i k' n hq
  rw [hq] at hv
  cases run_done hr
  refine .here s ?_ (.int _ _)
  simp only [execOp,ho,convert,Sem.run_bind,und_ok h1,und_ok h2,Result.andThen_ok,hv.int_inv,Conv.intToInt,Sem.run_pure]
 ·cases hr
theorem good_strId {src dst:TypeId} {ts:TypeDesc} {x:Operand} {p:AO} (ho:o.op = .convert src dst x) (h1:P.underlying src=some ts) (hts:ts = .string∨∃ k,ts = .int k) (h2:P.underlying dst=some .string) (hx:compO G x=some p) (e:ER G w phi im env a.tmps) (s:SR w phi im h)
  (hr:(aop slot env (.strId p)).run slot h=some (v,h')):Good P o a w phi im v h':=by
 obtain ⟨z,hz,hr'⟩:=run_ofOpt hr
 cases hr'
 have hv:=compO_ok e hx
 unfold strIdV at hz
 split at hz
 ·rename_i st hq
  rw [hq] at hv
  cases hz
  refine .here s ?_ hv
  rcases hts with rfl|⟨k,rfl⟩ <;>
  simp only [execOp,ho,convert,Sem.run_bind,und_ok h1,und_ok h2,Result.andThen_ok,hv.str_inv,Sem.run_pure]
 ·rename_i k' n hq
  rw [hq] at hv
  split at hz
  ·rename_i hn
   cases hz
   have henc:Utf8.encode n=⟨#[UInt8.ofNat n.toNat]⟩:=by
    have hva:Utf8.valid n=true:=by
     simp only [Utf8.valid,Bool.or_eq_true,Bool.and_eq_true,decide_eq_true_eq]
     omega
    unfold Utf8.encode
    simp only [hva,if_true]
    rw [if_pos (by omega)]
   refine .here s (rv:= .string ⟨[UInt8.ofNat n.toNat].toArray⟩) ?_ (.imm (.str _))
   rcases hts with rfl|⟨k,rfl⟩ <;>
   simp only [execOp,ho,convert,Sem.run_bind,und_ok h1,und_ok h2,Result.andThen_ok,hv.int_inv,Conv.intToString,henc,Sem.run_pure]
  ·cases hz
 ·cases hz
theorem abound_ok {y n:Nat} {x:AV} {u:Value} (hx:abound y x=some n) (hv:VR w phi im x u) {y':Nat} (hy:y≤y') (code:BoundsCode):(Instr.sliceBound u y' code).run P w = .ok n w∧n≤y:=by
 unfold abound at hx
 split at hx
 ·rename_i k i
  split at hx
  ·rename_i hc
   cases hx
   cases hv.int_inv
   refine ⟨?_,by omega⟩
   simp only [Instr.sliceBound,Sem.run_bind,asIntOf,Sem.run_pure,Result.andThen_ok]
   rw [if_pos (by omega)]
   rfl
  ·cases hx
 ·cases hx
theorem compOO_ok {x:Option Operand} {y:Option AO} (hx:compOO G x=some y):(x=none∧y=none)∨∃ p q,x=some p∧y=some q∧compO G p=some q:=by
 cases x with
 | none=>cases hx;exact .inl ⟨rfl,rfl⟩
 | some p =>
  simp only [compOO,Option.map_eq_some_iff] at hx
  obtain ⟨q,hq,rfl⟩:=hx
  exact .inr ⟨p,q,rfl,rfl,hq⟩
theorem bounds_ok (e:ER G w phi im env a.tmps) {lo hi mx:Option Operand} {lo' hi' mx':Option AO} (h1:compOO G lo=some lo') (h2:compOO G hi=some hi') (h3:compOO G mx=some mx') (hmh:mx'.isSome=true→hi'.isSome=true)
  {sl:Bool} {len cap rcap m hh l:Nat} (hc:cap≤rcap) (hl:len≤cap) (g1:obound env cap cap mx'=some m) (g2:obound env m len hi'=some hh) (g3:obound env hh 0 lo'=some l) :
  (Instr.sliceBounds sl len rcap (lo.map a.eval) (hi.map a.eval) (mx.map a.eval)).run P w = .ok (l,hh,if mx'.isSome then m else rcap) w∧l≤hh∧hh≤m∧m≤cap:=by
 have hmr:m≤(if mx'.isSome then m else rcap):=by
  split
  ·exact Nat.le_refl _
  ·rcases compOO_ok h3 with ⟨rfl,rfl⟩|⟨p,q,rfl,rfl,hpq⟩
   ·cases g1;exact hc
   ·rename_i hne;simp at hne
 have km:m≤cap:=by
  rcases compOO_ok h3 with ⟨rfl,rfl⟩|⟨p,q,rfl,rfl,hpq⟩
  ·cases g1;exact Nat.le_refl _
  ·exact (abound_ok (P:=P) g1 (compO_ok e hpq) hc .index).2
 have kh:hh≤m:=by
  rcases compOO_ok h2 with ⟨rfl,rfl⟩|⟨p,q,rfl,rfl,hpq⟩
  ·cases g2
   rcases compOO_ok h3 with ⟨rfl,rfl⟩|⟨p,q,rfl,rfl,hpq⟩
   ·cases g1;exact hl
   ·simp at hmh
  ·exact (abound_ok (P:=P) g2 (compO_ok e hpq) (Nat.le_refl _) .index).2
 have kl:l≤hh:=by
  rcases compOO_ok h1 with ⟨rfl,rfl⟩|⟨p,q,rfl,rfl,hpq⟩
  ·cases g3;exact Nat.zero_le _
  ·exact (abound_ok (P:=P) g3 (compO_ok e hpq) (Nat.le_refl _) .index).2
 refine ⟨?_,kl,kh,km⟩
 rcases compOO_ok h3 with ⟨rfl,rfl⟩|⟨p3,q3,rfl,rfl,hpq3⟩
 ·cases g1
  rcases compOO_ok h2 with ⟨rfl,rfl⟩|⟨p2,q2,rfl,rfl,hpq2⟩
  ·cases g2
   rcases compOO_ok h1 with ⟨rfl,rfl⟩|⟨p1,q1,rfl,rfl,hpq1⟩
   ·cases g3
    simp [Instr.sliceBounds]
   ·obtain ⟨r5,_⟩:=abound_ok (P:=P) g3 (compO_ok e hpq1) (Nat.le_refl _) .sliceB
    simp [Instr.sliceBounds,r5]
  ·obtain ⟨r1,_⟩:=abound_ok (P:=P) g2 (compO_ok e hpq2) hc (if sl=true then .sliceAcap else .sliceAlen)
   rcases compOO_ok h1 with ⟨rfl,rfl⟩|⟨p1,q1,rfl,rfl,hpq1⟩
   ·cases g3
    simp [Instr.sliceBounds,r1]
   ·obtain ⟨r5,_⟩:=abound_ok (P:=P) g3 (compO_ok e hpq1) (Nat.le_refl _) .sliceB
    simp [Instr.sliceBounds,r1,r5]
 ·rcases compOO_ok h2 with ⟨rfl,rfl⟩|⟨p2,q2,rfl,rfl,hpq2⟩
  ·simp at hmh
  ·obtain ⟨r1,_⟩:=abound_ok (P:=P) g1 (compO_ok e hpq3) hc (if sl=true then .slice3Acap else .slice3Alen)
   obtain ⟨r3,_⟩:=abound_ok (P:=P) g2 (compO_ok e hpq2) (Nat.le_refl m) .slice3B
   rcases compOO_ok h1 with ⟨rfl,rfl⟩|⟨p1,q1,rfl,rfl,hpq1⟩
   ·cases g3
    simp [Instr.sliceBounds,r1,r3]
   ·obtain ⟨r5,_⟩:=abound_ok (P:=P) g3 (compO_ok e hpq1) (Nat.le_refl _) .slice3C
    simp [Instr.sliceBounds,r1,r3,r5]
theorem good_slice {t el:TypeId} {sz:Nat} {x:Operand} {lo hi mx:Option Operand} {p:AO} {lo' hi' mx':Option AO} (ho:o.op = .slice t x lo hi mx) (hu:P.underlying t=some (.slice el)) (hs:tsize P el=some sz)
  (hx:compO G x=some p) (h1:compOO G lo=some lo') (h2:compOO G hi=some hi') (h3:compOO G mx=some mx') (hmh:mx'.isSome=true→hi'.isSome=true) (e:ER G w phi im env a.tmps) (s:SR w phi im h)
  (hr:(aop slot env (.slice sz p lo' hi' mx')).run slot h=some (v,h')):Good P o a w phi im v h':=by
 have hv:=compO_ok e hx
 obtain ⟨z,hz,hr'⟩:=run_ofOpt hr
 cases hr'
 have key:∀ (b:Option Addr) (len rcap l hh m':Nat),a.eval x = .slice b len rcap→(Instr.sliceBounds true len rcap (lo.map a.eval) (hi.map a.eval) (mx.map a.eval)).run P w = .ok (l,hh,m') w →
   (execOp a.eval o).run P w = .ok (.value (.slice (if m'=l then b else b.map (·.add (l*sz))) (hh - l) (m' - l))) w:=fun b len rcap l hh m' hav hb=>by
  simp only [execOp,ho,Instr.sliceAt,Sem.run_bind,und_ok hu,Result.andThen_ok,Instr.slice,hav,hb,tsize_ok hs,Sem.run_pure]
 unfold aslice at hz
 split at hz
 ·rename_i rows cap hq
  rw [hq] at hv
  split at hz
  ·cases hz
  ·rename_i hss
   have hss:∀ row ∈ rows,row.length=sz:=by simpa [rowsz] using hss
   split at hz
   ·cases hz
   ·rename_i m g1
    split at hz
    ·cases hz
    ·rename_i hh g2
     split at hz
     ·cases hz
     ·rename_i l g3
      cases hz
      obtain ⟨base,b,ob,s2,rcap,hav,hb,hl,hrows,hroom⟩:=hv.rows_inv
      obtain ⟨r1,r2,r3,r4⟩:=bounds_ok (P:=P) e h1 h2 h3 hmh (sl:=true) hl (Nat.le_refl _) g1 g2 g3
      have r:=key _ _ _ _ _ _ hav r1
      generalize hm':(if mx'.isSome then m else rcap)=m' at r
      have hmm:m≤m':=by rw [← hm'];split<;>omega
      have hmr:m'≤rcap:=by rw [← hm'];split<;>omega
      have hlen:((rows.take hh).drop l).length=hh - l:=by simp;omega
      have hget:∀ i,((rows.take hh).drop l)[i]?=if l+i<hh then rows[l+i]? else none:=fun i=>by
       rw [List.getElem?_drop,List.getElem?_take]
      have hls:l*sz=l*s2:=by
       rcases Nat.eq_zero_or_pos rows.length with g|g
       ·have:l=0:=by omega
        simp [this]
       ·have hmem:=List.getElem_mem g
        rw [← hss _ hmem,hrows.1 _ hmem]
      rw [hls] at r
      have hrows':RowsAt w im ((rows.take hh).drop l) b (ob+l*s2) s2:=by
       refine ⟨fun row hrow=>hrows.1 row (List.mem_of_mem_take (List.mem_of_mem_drop hrow)),fun i row j y hi hj=>?_⟩
       rw [hget] at hi
       split at hi
       ·have:=hrows.2 (l+i) row j y hi hj
        rw [show ob+(l+i)*s2+j=ob+l*s2+i*s2+j by rw [Nat.add_mul];omega] at this
        exact this
       ·cases hi
      have hbp:0<m' - l→(if m'=l then base else base.map (·.add (l*s2)))=some ⟨b,ob+l*s2,none⟩:=fun hpos=>by
       rw [if_neg (by omega),hb (by omega)]
       simp only [Option.map_some,add_off]
      have hsm:(if m'=l then base else base.map (·.add (l*s2))).isSome=base.isSome:=by split<;>simp
      have hno:base=none→(if m'=l then base else base.map (·.add (l*s2)))=none:=fun q=>by subst q;split<;>rfl
      generalize (if m'=l then base else base.map (·.add (l*s2)))=base' at r hbp hsm hno
      have:=VR.rows (w:=w) (phi:=phi) (im:=im) (rows:=(rows.take hh).drop l) (cap:=if mx'.isSome then (if m=hh then .full else .no) else if hh=rows.length then cap else .no)
       (base:=base') (b:=b) (o:=ob+l*s2) (sz:=s2) (rcap:=m' - l) hbp (by omega) hrows' (by
        cases hms:mx'.isSome with
        | true =>
         rw [hms] at hm'
         simp at hm'
         simp only [if_true]
         split
         ·show m' - l=_;omega
         ·exact trivial
        | false =>
         rw [hms] at hm'
         simp at hm'
         simp only [Bool.false_eq_true,if_false]
         split
         ·rename_i hfl
          cases cap with
          | no=>exact trivial
          | nn=>exact hsm.trans hroom
          | nil =>
           obtain ⟨q1,q2⟩:=hroom
           exact ⟨hno q1,by omega⟩
          | full =>
           show m' - l=_
           have:rcap=rows.length:=hroom
           omega
          | tok id sx =>
           obtain ⟨q1,q2,el',n,q3,q4⟩:=hroom
           refine ⟨q1,?_,el',n,q3,?_⟩
           ·rw [q2,hlen,hfl]
            have:l*s2+(rows.length - l)*s2=rows.length*s2:=by rw [← Nat.add_mul];congr 1;omega
            rw [Nat.add_assoc,this]
           ·have h5:l*s2+(m' - l)*s2=m'*s2:=by rw [← Nat.add_mul];congr 1;omega
            have h6:m'*s2≤rcap*s2:=Nat.mul_le_mul_right _ hmr
            omega
         ·exact trivial)
      rw [hlen] at this
      exact .here s r this
 ·rename_i id off len s2 cap ex hq
  rw [hq] at hv
  split at hz
  ·cases hz
  ·rename_i hss
   have hss:s2=sz:=by simpa using hss
   subst hss
   split at hz
   ·cases hz
   ·rename_i m g1
    split at hz
    ·cases hz
    ·rename_i hh g2
     split at hz
     ·cases hz
     ·rename_i l g3
      cases hz
      obtain ⟨b,sh,ob,rcap,el',n,hav,hp,hoff,hsh,hn,hcap,hx',hl⟩:=hv.ms_inv
      obtain ⟨r1,r2,r3,r4⟩:=bounds_ok (P:=P) e h1 h2 h3 hmh (sl:=true) hcap hl g1 g2 g3
      have r:=key _ _ _ _ _ _ hav r1
      generalize hm':(if mx'.isSome then m else rcap)=m' at r
      have hmm:m≤m':=by rw [← hm'];split<;>omega
      have hmr:m'≤rcap:=by rw [← hm'];split<;>omega
      have hrv:(.slice (if m'=l then some ⟨b,ob,none⟩ else (some ⟨b,ob,none⟩:Option Addr).map (·.add (l*s2))) (hh - l) (m' - l):Value) = .slice (some ⟨b,if m'=l then ob else ob+l*s2,none⟩) (hh - l) (m' - l):=by
       split
       ·rfl
       ·simp only [Option.map_some,add_off]
      rw [hrv] at r
      refine .here s r (.ms id _ _ s2 _ _ b sh _ _ el' n hp (fun hpos=>?_) hsh ?_ (by omega) (fun hex=>?_) (by omega))
      ·rw [if_neg (by omega),hoff (by omega)]
       omega
      ·split
       ·rename_i hq2;rw [hq2,Nat.sub_self,Nat.zero_mul];have:=Nat.zero_le (rcap*s2);omega
       ·have h5:l*s2+(m' - l)*s2=m'*s2:=by rw [← Nat.add_mul];congr 1;omega
        have h6:m'*s2≤rcap*s2:=Nat.mul_le_mul_right _ hmr
        omega
      ·cases hms:mx'.isSome with
       | true=>rw [hms] at hm';simp at hm';omega
       | false =>
        rw [hms] at hex hm'
        simp at hex hm'
        have:=hx' hex
        have:m=cap:=by
         rcases compOO_ok h3 with ⟨rfl,rfl⟩|⟨p,q,rfl,rfl,hpq⟩
         ·cases g1;rfl
         ·simp at hms
        omega
 ·cases hz
theorem good_strSlice {t:TypeId} {x:Operand} {lo hi:Option Operand} {p:AO} {lo' hi':Option AO} (ho:o.op = .slice t x lo hi none) (hu:P.underlying t=some .string)
  (hx:compO G x=some p) (h1:compOO G lo=some lo') (h2:compOO G hi=some hi') (e:ER G w phi im env a.tmps) (s:SR w phi im h)
  (hr:(aop slot env (.strSlice p lo' hi')).run slot h=some (v,h')):Good P o a w phi im v h':=by
 have hv:=compO_ok e hx
 simp only [aop] at hr
 split at hr
 ·rename_i st hq
  rw [hq] at hv
  split at hr
  ·cases hr
  ·rename_i hh g2
   split at hr
   ·cases hr
   ·rename_i l g3
    cases run_done hr
    obtain ⟨r1,r2,r3,r4⟩:=bounds_ok (P:=P) (a:=a) e h1 h2 (mx:=none) (mx':=none) rfl (by simp) (sl:=false) (Nat.le_refl st.length) (Nat.le_refl st.length) (m:=st.length) rfl g2 g3
    refine .here s (rv:= .string ((⟨st.toArray⟩:ByteArray).extract l hh)) ?_ ?_
    ·have hsz:(⟨st.toArray⟩:ByteArray).size=st.length:=by simp [ByteArray.size]
     simp only [Option.map_none] at r1
     simp only [execOp,ho,Instr.sliceAt,Sem.run_bind,und_ok hu,Result.andThen_ok,Instr.slice,hv.str_inv,Option.map_none,Option.isSome_none,Bool.false_eq_true,if_false,hsz,r1,Sem.run_pure]
    ·have:(⟨st.toArray⟩:ByteArray).extract l hh=⟨((st.take hh).drop l).toArray⟩:=by
      apply ByteArray.ext
      simp [List.extract_eq_take_drop,List.drop_take]
     rw [this]
     exact .str _
 ·cases hr
theorem good_mkSlice {t el:TypeId} {sz by_:Nat} {z:List AV} {x y:Operand} {p q:AO} {vl:Bool} (ho:o.op = .makeSlice t x y) (hu:P.underlying t=some (.slice el)) (hs:tsize P el=some sz) (hb:tbytes P el=some by_) (hz:zcells P el=some z)
  (h2:z.length=sz) (hx:compO G x=some p) (hy:compO G y=some q) (e:ER G w phi im env a.tmps) (s:SR w phi im h)
  (hr:(aop slot env (.mkSlice vl sz by_ z p q)).run slot h=some (v,h')):Good P o a w phi im v h':=by
 have hvx:=compO_ok e hx
 have hvy:=compO_ok e hy
 simp only [aop] at hr
 split at hr
 ·rename_i l c hq1 hq2
  rw [hq1] at hvx
  rw [hq2] at hvy
  split at hr
  ·rename_i hcond
   obtain ⟨c1,c2,c3,c4⟩:=hcond
   obtain ⟨zv,hrun,hsz,hval⟩:=zcells_ok hz
   simp only [tbytes,Option.map_eq_some_iff] at hb
   obtain ⟨ti,hti,rfl⟩:=hb
   have wl:IntKind.i64.wrap l=l:=IntWalk.i64_in _ (by omega)
   have wc:IntKind.i64.wrap c=c:=IntWalk.i64_in _ (by omega)
   have hroom:c.toNat*ti.bytes≤140737488355328:=by simpa [roomy] using c4
   have hroom':(ti.bytes:Int)*c≤140737488355328:=by
    have:((c.toNat*ti.bytes:Nat):Int)≤140737488355328:=by omega
    rw [Int.natCast_mul,Int.toNat_of_nonneg (by omega),Int.mul_comm] at this
    exact this
   generalize hcells:((Array.range (c.toNat*sz)).map ((if c.toNat*sz=0 then #[] else zv.cells)[· % (if c.toNat*sz=0 then #[] else zv.cells).size]!))=cells
   have hsize:cells.size=c.toNat*sz:=by rw [← hcells];simp
   have run:(execOp a.eval o).run P w = .ok (.value (.slice (some ⟨w.heap.size,0,none⟩) l.toNat c.toNat)) { w with heap:=w.heap.push (.cells cells el) }:=by
    simp only [execOp,ho,Instr.makeSlice,Sem.run_bind,und_ok hu,Result.andThen_ok,asInt,hvx.int_inv,hvy.int_inv,asIntOf,Sem.run_pure,typeInfo,run_program,hti,wl,wc]
    rw [if_neg (by
     simp only [Bool.or_eq_true,decide_eq_true_eq,not_or,Int.not_lt]
     omega)]
    simp only [Sem.run_bind,run_askRoom,Result.andThen_ok,tsize_ok hs]
    by_cases hne:c.toNat*sz=0
    ·simp only [hne,if_true] at hcells ⊢
     simp only [Sem.run_bind,Sem.run_pure,Result.andThen_ok,newRow,run_newObj,hcells]
    ·simp only [hne,if_false] at hcells ⊢
     simp only [Sem.run_bind,Sem.run_pure,Result.andThen_ok,hrun,newRow,run_newObj,hcells]
   have cellz:∀ (w2:World) (phi2:Phi) (im2:Imm) (j:Nat) (x:AV),(repeatCells c.toNat z)[j]?=some x→VR w2 phi2 im2 x (cells.getD j Go.undef):=fun w2 phi2 im2 j x hj=>zeros_ok (w:=w2) hz c.toNat _ (fun zv' hz' hne=>by
    have hvv:zv'=zv:=by have q1:=hz' w;rw [hrun w] at q1;cases q1;rfl
    subst hvv
    rw [h2] at hne ⊢
    rw [← hcells,if_neg hne]) j x hj
   obtain ⟨b0,hsl,hf,hk⟩:∃ b0,h[slot]?=some b0∧b0.isFree=true∧((vl=true∧v = .is (List.replicate l.toNat (strip.stripL z)) (.tok slot sz)∧h'=h.set slot .tok)∨(vl=false∧v = .ms slot 0 l.toNat sz c.toNat true∧h'=h.set slot (.cells (repeatCells c.toNat z)))):=by
    split at hr
    ·rename_i hvl
     obtain ⟨b0,hsl,hf,hk⟩:=run_new hr
     cases run_done hk
     exact ⟨b0,hsl,hf,.inl ⟨hvl,rfl,rfl⟩⟩
    ·rename_i hvl
     obtain ⟨b0,hsl,hf,hk⟩:=run_new hr
     cases run_done hk
     exact ⟨b0,hsl,hf,.inr ⟨by simpa using hvl,rfl,rfl⟩⟩
   have hlc:l.toNat≤c.toNat:=by omega
   have hlcs:l.toNat*sz≤c.toNat*sz:=Nat.mul_le_mul_right _ hlc
   rcases hk with ⟨_,rfl,rfl⟩|⟨_,rfl,rfl⟩
   ·refine Good.tok s hsl hf (c:=cells) (e:=el) (fz:=(0,0)) (l.toNat*sz) run rfl rfl rfl rfl (fun j _=>by simp) fun p0 p=>?_
    have hrl:(List.replicate l.toNat (strip.stripL z)).length=l.toNat:=by simp
    have:=VR.rows (w:={ w with heap:=w.heap.push (.cells cells el) }) (phi:=phiAt phi slot w.heap.size (l.toNat*sz)) (im:=imNew im w.heap.size (l.toNat*sz)) (rows:=List.replicate l.toNat (strip.stripL z)) (cap:= .tok slot sz)
     (base:=some ⟨w.heap.size,0,none⟩) (b:=w.heap.size) (o:=0) (sz:=sz) (rcap:=c.toNat) (fun _=>rfl) (by omega)
     ⟨fun row hrow=>by rw [(List.mem_replicate.1 hrow).2,stripL_len,h2],fun i row j x hi hj=>by
      have hil:=set_lt hi
      rw [hrl] at hil
      rw [List.getElem?_replicate,if_pos hil] at hi
      cases hi
      have hjl:=set_lt hj
      rw [stripL_len,h2] at hjl
      obtain ⟨y,hy,rfl⟩:=stripL_get hj
      have h7:(i+1)*sz≤l.toNat*sz:=Nat.mul_le_mul_right _ (by omega)
      rw [Nat.succ_mul] at h7
      refine ⟨.inr ⟨rfl,by omega⟩,_,cell_push rfl (by omega),?_⟩
      have hge:(repeatCells c.toNat z)[0+i*sz+j]?=some y:=by
       rw [repeat_get z _ _ (by rw [h2];omega),h2,Nat.zero_add,Nat.add_comm,Nat.add_mul_mod_self_right,Nat.mod_eq_of_lt hjl]
       exact hy
      have hvr:=cellz { w with heap:=w.heap.push (.cells cells el) } phi (imNew im w.heap.size (l.toNat*sz)) _ y hge
      have hzi:∀ (w2:World) (im2:Imm),IR w2 im2 y (zv.cells.getD j Go.undef):=fun w2 im2=>hval w2 im2 j y hy
      have hce:cells.getD (0+i*sz+j) Go.undef=zv.cells.getD j Go.undef:=by
       have hzs:zv.cells.size=sz:=by omega
       have:=zero_array zv.cells (c.toNat*sz) (0+i*sz+j) (by omega) (by omega)
       rw [← hcells,if_neg (by omega),this,hzs,Nat.zero_add,Nat.add_comm,Nat.add_mul_mod_self_right,Nat.mod_eq_of_lt hjl]
      rw [hce]
      exact (hzi _ _).strip⟩
     ⟨rfl,by rw [hrl,Nat.zero_add];exact phiAt_self ..,el,cells.size,by simp [World.shape?],by omega⟩
    rw [hrl] at this
    exact this
   ·exact Good.new s hsl hf (c:=cells) (e:=el) (fz:=(0,0)) run rfl rfl rfl rfl
     (by rw [repeat_length,h2];omega) (fun j x hj=>cellz w phi im j x hj) (fun j _=>by simp) (.ms slot 0 l.toNat sz c.toNat true w.heap.size 0 0 c.toNat el cells.size (by simp [phiAt]) (by simp) (by simp [World.shape?]) (by omega) (Nat.le_refl _) (fun _=>rfl) (by omega))
  ·cases hr
 ·cases hr
theorem good_toBytes {src dst el:TypeId} {x:Operand} {p:AO} {vl:Bool} (ho:o.op = .convert src dst x) (h1:P.underlying src=some .string) (h2:P.underlying dst=some (.slice el)) (h3:P.underlying el=some (.int .u8)) (hx:compO G x=some p) (e:ER G w phi im env a.tmps) (s:SR w phi im h)
  (hr:(aop slot env (.toBytes vl p)).run slot h=some (v,h')):Good P o a w phi im v h':=by
 have hv:=compO_ok e hx
 simp only [aop] at hr
 split at hr
 ·rename_i st hq
  rw [hq] at hv
  have hrun:=Lib.run_convert_string_bytes (P:=P) w src dst el ⟨st.toArray⟩ h1 h2 h3
  have hsz:(⟨st.toArray⟩:ByteArray).size=st.length:=by simp [ByteArray.size]
  have hcs:st.length≤(Lib.bytesCells w el ⟨st.toArray⟩).size:=by simp [Lib.bytesCells]
  have hheap:(Lib.bytesWorld w el ⟨st.toArray⟩).heap=w.heap.push (.cells (Lib.bytesCells w el ⟨st.toArray⟩) el ((Lib.bytesCells w el ⟨st.toArray⟩).size,(Lib.bytesCells w el ⟨st.toArray⟩).size+1)):=by
   apply Array.ext_getElem?
   intro j
   rcases Nat.lt_trichotomy j w.heap.size with g|g|g
   ·rw [Lib.bytesWorld_at_old _ _ _ _ g,Array.getElem?_push,if_neg (by omega)]
   ·subst g
    rw [Lib.bytesWorld_at_new,Array.getElem?_push,if_pos rfl]
   ·rw [Array.getElem?_eq_none (by rw [Lib.bytesWorld_size];omega),Array.getElem?_eq_none (by simp;omega)]
  have hcap:st.length≤grownCap w st.length 0 el:=grownCap_ge _ _ _ _
  have run:(execOp a.eval o).run P w = .ok (.value (.slice (some ⟨w.heap.size,0,none⟩) st.length (grownCap w st.length 0 el))) (Lib.bytesWorld w el ⟨st.toArray⟩):=by
   simp only [execOp,ho,Sem.run_bind,hv.str_inv,hrun,hsz,Result.andThen_ok,Sem.run_pure]
  have hcell:∀ (w2:World) (phi2:Phi) (im2:Imm) (j:Nat) (y:AV),(ofBytes st)[j]?=some y→IR w2 im2 y ((Lib.bytesCells w el ⟨st.toArray⟩).getD j Go.undef)∧strip y=y:=fun w2 phi2 im2 j y hj=>by
   simp only [ofBytes,List.getElem?_map,Option.map_eq_some_iff] at hj
   obtain ⟨b,hb,rfl⟩:=hj
   have hlt:=set_lt hb
   have:(Lib.bytesCells w el ⟨st.toArray⟩).getD j Go.undef = .int .u8 b.toNat:=by
    rw [List.getElem?_eq_getElem hlt] at hb
    cases hb
    simp [Lib.bytesCells,Array.getD_eq_getD_getElem?,Array.getElem?_append,hlt]
   rw [this]
   exact ⟨.int _ _,rfl⟩
  have hss:(Lib.bytesCells w el ⟨st.toArray⟩).size=grownCap w st.length 0 el:=by simp [Lib.bytesCells,hsz];omega
  split at hr
  ·obtain ⟨b0,hs,hf,hk⟩:=run_new hr
   cases run_done hk
   refine Good.tok s hs hf (c:=Lib.bytesCells w el ⟨st.toArray⟩) (e:=el) st.length run hheap rfl rfl rfl (fun j hj=>by omega) fun p0 p=>?_
   have hbl:(ofBytes st).length=st.length*1:=by simp [ofBytes]
   have hlen:=(chunk_get 1 st.length _ hbl).1
   have:=VR.rows (w:=Lib.bytesWorld w el ⟨st.toArray⟩) (phi:=phiAt phi slot w.heap.size st.length) (im:=imNew im w.heap.size st.length) (rows:=chunk 1 st.length (ofBytes st)) (cap:= .tok slot 1)
    (base:=some ⟨w.heap.size,0,none⟩) (b:=w.heap.size) (o:=0) (sz:=1) (rcap:=grownCap w st.length 0 el) (fun _=>rfl) (by omega)
    (RowsAt.chunk hbl fun j y hj=>by
     have hlt:=set_lt hj
     rw [hbl] at hlt
     refine ⟨.inr ⟨rfl,by omega⟩,_,by rw [Nat.zero_add];exact cell_push hheap (by omega),(hcell _ phi _ j y hj).1⟩)
    ⟨rfl,by rw [hlen,Nat.zero_add,Nat.mul_one];exact phiAt_self ..,el,(Lib.bytesCells w el ⟨st.toArray⟩).size,by simp [World.shape?,hheap],by omega⟩
   rw [hlen] at this
   exact this
  ·obtain ⟨b0,hs,hf,hk⟩:=run_new hr
   cases run_done hk
   refine Good.new s hs hf (w':=Lib.bytesWorld w el ⟨st.toArray⟩) (c:=Lib.bytesCells w el ⟨st.toArray⟩) (e:=el) (rv:= .slice (some ⟨w.heap.size,0,none⟩) st.length (grownCap w st.length 0 el)) run hheap rfl rfl rfl
    (by simpa [ofBytes] using hcs) (fun j y hj => .imm (hcell w phi im j y hj).1) (fun j hj=>by omega) (.ms slot 0 st.length 1 st.length false w.heap.size 0 0 _ el (Lib.bytesCells w el ⟨st.toArray⟩).size (by simp [phiAt]) (by simp) ?_ ?_ hcap (by simp) (Nat.le_refl _))
   ·simp [World.shape?,hheap]
   ·omega
 ·cases hr
end
end Go.AM
