/- The abstract machine: structs compared; texts made of bytes; and every operation at once. -/
import Derived.Test.YtfhijkapcdmdnaaGreatDoorAmJ
import Derived.Laws.StructEq
import Derived.MapKept
namespace Go.AM
variable {G:GTab}
theorem eqCells_len:∀ {ks:List CK} {xs ys:List AV} {b:Bool},eqCells ks xs ys=some b→xs.length=ks.length∧ys.length=ks.length:=by
 intro ks
 induction ks with
 | nil =>
  intro xs ys b h
  cases xs with
  | nil=>cases ys with
   | nil=>exact ⟨rfl,rfl⟩
   | cons y ys=>simp [eqCells] at h
  | cons x xs=>simp [eqCells] at h
 | cons k ks ih =>
  intro xs ys b h
  unfold eqCells at h
  split at h
  ·rename_i hq;cases hq
  ·rename_i k0 ks0 k1 a xs0 k2 c ys0 hq
   cases hq
   split at h
   ·simp only [Option.map_eq_some_iff] at h
    obtain ⟨b',hb',_⟩:=h
    obtain ⟨h1,h2⟩:=ih hb'
    exact ⟨by simp [h1],by simp [h2]⟩
   ·cases h
  ·rename_i ks0 a xs0 c ys0 hq
   cases hq
   simp only [Option.map_eq_some_iff] at h
   obtain ⟨b',hb',_⟩:=h
   obtain ⟨h1,h2⟩:=ih hb'
   exact ⟨by simp [h1],by simp [h2]⟩
  ·rename_i ks0 a xs0 c ys0 hq
   cases hq
   simp only [Option.map_eq_some_iff] at h
   obtain ⟨b',hb',_⟩:=h
   obtain ⟨h1,h2⟩:=ih hb'
   exact ⟨by simp [h1],by simp [h2]⟩
  ·cases h
theorem eqCells_split:∀ {ks l:List CK} {xs ys:List AV} {b:Bool},eqCells (ks ++ l) xs ys=some b →
  ∃ b1 b2,eqCells ks (xs.take ks.length) (ys.take ks.length)=some b1∧eqCells l (xs.drop ks.length) (ys.drop ks.length)=some b2∧b=(b1 && b2):=by
 intro ks
 induction ks with
 | nil=>intro l xs ys b h;exact ⟨true,b,by simp [eqCells],by simpa using h,by simp⟩
 | cons k ks ih =>
  intro l xs ys b h
  rw [List.cons_append] at h
  unfold eqCells at h
  split at h
  ·rename_i hq;cases hq
  ·rename_i k0 ks0 k1 a xs0 k2 c ys0 hq
   cases hq
   split at h
   ·rename_i hk
    simp only [Option.map_eq_some_iff] at h
    obtain ⟨b',hb',rfl⟩:=h
    obtain ⟨b1,b2,h1,h2,rfl⟩:=ih hb'
    exact ⟨a == c && b1,b2,by simp [eqCells,hk,h1],by simpa using h2,by simp [Bool.and_assoc]⟩
   ·cases h
  ·rename_i ks0 a xs0 c ys0 hq
   cases hq
   simp only [Option.map_eq_some_iff] at h
   obtain ⟨b',hb',rfl⟩:=h
   obtain ⟨b1,b2,h1,h2,rfl⟩:=ih hb'
   exact ⟨a == c && b1,b2,by simp [eqCells,h1],by simpa using h2,by simp [Bool.and_assoc]⟩
  ·rename_i ks0 a xs0 c ys0 hq
   cases hq
   simp only [Option.map_eq_some_iff] at h
   obtain ⟨b',hb',rfl⟩:=h
   obtain ⟨b1,b2,h1,h2,rfl⟩:=ih hb'
   exact ⟨a == c && b1,b2,by simp [eqCells,h1],by simpa using h2,by simp [Bool.and_assoc]⟩
  ·cases h
section
variable {P:Program} {o:Oper} {a:Act} {w:World} {phi:Phi} {im:Imm} {h:Heap} {env:Env} {slot:Nat} {v:AV} {h':Heap}
def Shaped (w:World) (phi:Phi) (im:Imm) (g:Bool) (xs:List AV) (u:Value):Prop :=
 if g then ∃ arr:Array Value,u = .agg arr∧arr.size=xs.length∧∀ (i:Nat) x,xs[i]?=some x→VR w phi im x (arr.getD i Go.undef)
 else ∃ x,xs=[x]∧VR w phi im x u
theorem shape_agg {d:Nat} {t:TypeId} {ks:List CK} (h:eqShape P d t=some ks):(tagg P t=some false∧ks.length=1)∨tagg P t=some true:=by
 cases d with
 | zero=>simp [eqShape] at h
 | succ d =>
  simp only [eqShape] at h
  split at h
  ·rename_i k hu;cases h;exact .inl ⟨by simp [tagg,hu,aggD],rfl⟩
  ·rename_i hu;cases h;exact .inl ⟨by simp [tagg,hu,aggD],rfl⟩
  ·rename_i hu;cases h;exact .inl ⟨by simp [tagg,hu,aggD],rfl⟩
  ·rename_i fs hu;exact .inr (by simp [tagg,hu,aggD])
  ·cases h
theorem part_shaped {d:Nat} {t:TypeId} {ks:List CK} (h:eqShape P d t=some ks) (hs:tsize P t=some ks.length) {xs:List AV} {arr:Array Value} (hn:arr.size=xs.length)
  (hrel:∀ (i:Nat) x,xs[i]?=some x→VR w phi im x (arr.getD i Go.undef)) {off:Nat} (hl:off+ks.length≤xs.length) :
  ∃ u g,tagg P t=some g∧(part t arr off).run P w = .ok u w∧Shaped w phi im g ((xs.drop off).take ks.length) u:=by
 rcases shape_agg h with ⟨hg,h1⟩|hg
 ·refine ⟨arr.getD off Go.undef,false,hg,?_,?_⟩
  ·have:arr[off]?=some (arr.getD off Go.undef):=by simp [Array.getD_eq_getD_getElem?,show off<arr.size by omega]
   simp only [part,Sem.run_bind,tagg_ok hg,Result.andThen_ok,Bool.false_eq_true,if_false,this,Sem.run_pure]
  ·have hx:xs[off]?=some xs[off]:=List.getElem?_eq_getElem (by omega)
   refine ⟨xs[off],?_,hrel off _ hx⟩
   rw [h1]
   rw [List.drop_eq_getElem_cons (by omega)]
   rfl
 ·obtain ⟨rv,r1,r2⟩:=part_ok (P:=P) (w:=w) (phi:=phi) (im:=im) hg hs hn hrel (off:=off) (z:= .agg ((xs.drop off).take ks.length)) (by simp [cget,hl])
  obtain ⟨arr',e1,e2,e3⟩:=r2.agg_inv
  exact ⟨rv,true,hg,r1,arr',e1,e2,e3⟩
theorem eq_shape:∀ (d:Nat) (t:TypeId) (ks:List CK),eqShape P d t=some ks→∀ D,d≤D→∀ (xs ys:List AV) (u v:Value) (b:Bool) (g:Bool),eqCells ks xs ys=some b→tagg P t=some g →
  Shaped w phi im g xs u→Shaped w phi im g ys v→(Op.equalIn D t u v).run P w = .ok b w:=by
 intro d
 induction d with
 | zero=>intro t ks h;simp [eqShape] at h
 | succ d ih =>
  intro t ks h D hD xs ys u v b g hb hg hu hv
  obtain ⟨D,rfl⟩:∃ D',D=D'+1:=⟨D - 1,by omega⟩
  simp only [eqShape] at h
  split at h
  ·rename_i k hut
   cases h
   have hg':g=false:=by simpa [tagg,hut,aggD] using hg.symm
   subst hg'
   obtain ⟨x,rfl,hx⟩:=hu
   obtain ⟨y,rfl,hy⟩:=hv
   cases x with
   | int k1 n1 =>
    cases y with
    | int k2 n2 =>
     simp only [eqCells] at hb
     split at hb
     ·rename_i hk
      obtain ⟨rfl,rfl⟩:=hk
      simp at hb
      subst hb
      rw [hx.int_inv,hy.int_inv]
      simp only [Op.equalIn,Sem.run_bind,und_ok hut,Result.andThen_ok,if_true,Sem.run_pure]
     ·cases hb
    | _=>simp [eqCells] at hb
   | _=>simp [eqCells] at hb
  ·rename_i hut
   cases h
   have hg':g=false:=by simpa [tagg,hut,aggD] using hg.symm
   subst hg'
   obtain ⟨x,rfl,hx⟩:=hu
   obtain ⟨y,rfl,hy⟩:=hv
   cases x with
   | bool b1 =>
    cases y with
    | bool b2 =>
     simp [eqCells] at hb
     subst hb
     rw [hx.bool_inv,hy.bool_inv]
     simp only [Op.equalIn,Sem.run_bind,und_ok hut,Result.andThen_ok,Sem.run_pure]
    | _=>simp [eqCells] at hb
   | _=>simp [eqCells] at hb
  ·rename_i hut
   cases h
   have hg':g=false:=by simpa [tagg,hut,aggD] using hg.symm
   subst hg'
   obtain ⟨x,rfl,hx⟩:=hu
   obtain ⟨y,rfl,hy⟩:=hv
   cases x with
   | str s1 =>
    cases y with
    | str s2 =>
     simp [eqCells] at hb
     subst hb
     rw [hx.str_inv,hy.str_inv]
     simp only [Op.equalIn,Sem.run_bind,und_ok hut,Result.andThen_ok,Sem.run_pure,beq_toListBytes,toList_mk]
    | _=>simp [eqCells] at hb
   | _=>simp [eqCells] at hb
  ·rename_i fs hut
   split at h
   ·cases h
   ·rename_i hheld
    have hg':g=true:=by simpa [tagg,hut,aggD] using hg.symm
    subst hg'
    obtain ⟨ax,rfl,hax,hrx⟩:=hu
    obtain ⟨ay,rfl,hay,hry⟩:=hv
    have hf:P.fieldsOf t=fs:=by simp [Program.fieldsOf,hut]
    rw [run_equalIn_struct (P:=P) w D t ax ay (by rw [hf];exact hut) (by simpa using hheld),hf]
    have inner:∀ (fl:List Field) (off:Nat) (ks:List CK),shapeGo P (eqShape P d) fl off=some ks→off≤xs.length→off≤ys.length→∀ b,eqCells ks (xs.drop off) (ys.drop off)=some b→(Op.eqFields D ax ay fl).run P w = .ok b w:=by
     intro fl
     induction fl with
     | nil =>
      intro off ks hs _ _ b hb
      cases hs
      have:b=true:=by
       unfold eqCells at hb
       split at hb<;>simp_all
      subst this
      simp [Op.eqFields]
     | cons f r ihf =>
      intro off ks hs hox hoy b hb
      simp only [shapeGo] at hs
      split at hs
      ·cases hs
      ·rename_i hname
       have hname : f.name ≠ "_" ∧ f.offset = off := by simpa using hname
       split at hs
       ·cases hs
       ·rename_i k0 hk0
        split at hs
        ·cases hs
        ·rename_i hts
         have hts:tsize P f.type=some k0.length:=by simpa using hts
         split at hs
         ·cases hs
         ·rename_i l hl
          cases hs
          obtain ⟨b1,b2,e1,e2,rfl⟩:=eqCells_split hb
          obtain ⟨l1,l2⟩:=eqCells_len e1
          simp only [List.length_take,List.length_drop] at l1 l2
          rw [List.drop_drop,List.drop_drop] at e2
          obtain ⟨u,g1,q1,q2,q3⟩:=part_shaped (w:=w) (phi:=phi) (im:=im) hk0 hts hax hrx (off:=off) (by omega)
          obtain ⟨u',g2,p1,p2,p3⟩:=part_shaped (w:=w) (phi:=phi) (im:=im) hk0 hts hay hry (off:=off) (by omega)
          rw [q1] at p1
          cases p1
          have r1:=ih f.type k0 hk0 D (by omega) _ _ u u' b1 g1 e1 q1 q3 p3
          have r2:=ihf (off+k0.length) l hl (by omega) (by omega) b2 e2
          simp only [Op.eqFields,if_pos hname.1,Sem.run_bind,hname.2,q2,p2,r1,Result.andThen_ok]
          cases b1
          ·simp
          ·simpa using r2
    exact inner fs.toList 0 ks h (Nat.zero_le _) (Nat.zero_le _) b (by simpa using hb)
  ·cases h
theorem guard_shape:∀ (d:Nat) (t:TypeId) (ks:List CK),eqShape P d t=some ks→∀ D,d≤D→P.eqGuardType D t=false:=by
 intro d
 induction d with
 | zero=>intro t ks h;simp [eqShape] at h
 | succ d ih =>
  intro t ks h D hD
  obtain ⟨D,rfl⟩:∃ D',D=D'+1:=⟨D - 1,by omega⟩
  simp only [eqShape] at h
  split at h
  ·rename_i k hut;simp [Program.eqGuardType,hut]
  ·rename_i hut;simp [Program.eqGuardType,hut]
  ·rename_i hut;simp [Program.eqGuardType,hut]
  ·rename_i fs hut
   split at h
   ·cases h
   ·have inner:∀ (fl:List Field) (off:Nat) (ks:List CK),shapeGo P (eqShape P d) fl off=some ks→∀ f ∈ fl,P.eqGuardType D f.type=false:=by
     intro fl
     induction fl with
     | nil=>intro off ks _ f hf;simp at hf
     | cons g r ihf =>
      intro off ks hs f hf
      simp only [shapeGo] at hs
      split at hs
      ·cases hs
      ·split at hs
       ·cases hs
       ·rename_i k0 hk0
        split at hs
        ·cases hs
        ·split at hs
         ·cases hs
         ·rename_i l hl
          rcases List.mem_cons.1 hf with rfl|hf
          ·exact ih _ _ hk0 D (by omega)
          ·exact ihf _ _ hl f hf
    have:=inner fs.toList 0 ks h
    simp only [Program.eqGuardType,hut]
    rw [Array.any_eq_false]
    intro i hi
    have:=this fs[i] (by simp)
    simp [this]
  ·cases h
theorem good_eqAgg {op:BinOp} {t yt:TypeId} {x y:Operand} {p q:AO} {ks:List CK} (ho:o.op = .binOp op t x y yt) (hop:op = .eql∨op = .neq) {fs:Array Field} (hu:P.underlying t=some (.struct fs)) (hd:9≤P.depth) (hk:eqShape P 9 t=some ks)
  (hx:compO G x=some p) (hy:compO G y=some q) (e:ER G w phi im env a.tmps) (s:SR w phi im h)
  (hr:(aop slot env (.eq (decide (op = .neq)) (.agg ks) p q)).run slot h=some (v,h')):Good P o a w phi im v h':=by
 obtain ⟨z,hz,hr'⟩:=run_ofOpt hr
 cases hr'
 simp only [Option.map_eq_some_iff] at hz
 obtain ⟨b,hb,rfl⟩:=hz
 have hvx:=compO_ok e hx
 have hvy:=compO_ok e hy
 simp only [aeq] at hb
 split at hb
 ·rename_i xs ys hq1 hq2
  rw [hq1] at hvx
  rw [hq2] at hvy
  obtain ⟨ax,hax,h1,h2⟩:=hvx.agg_inv
  obtain ⟨ay,hay,h3,h4⟩:=hvy.agg_inv
  refine good_eqRun ho hop s ?_
  rw [hax,hay]
  have hg:tagg P t=some true:=by simp [tagg,hu,aggD]
  have hrun:∀ D,9≤D→(Op.equalIn D t (.agg ax) (.agg ay)).run P w = .ok b w:=fun D hD=>eq_shape 9 t ks hk D hD xs ys _ _ b true hb hg ⟨ax,rfl,h1,h2⟩ ⟨ay,rfl,h3,h4⟩
  have hguard:P.eqGuardType P.depth t=false:=guard_shape 9 t ks hk _ hd
  exact ⟨fun d hd=>hrun (d+1) (by omega),fun op p q=>by cases op<;>simp [eqGuard,hguard],rfl,rfl⟩
 ·cases hb
theorem bytesOf_ok:∀ {cs:List AV} {l:List UInt8},bytesOf cs=some l→∃ ns:List Int,cs=ns.map (AV.int .u8)∧l=ns.map fun n=>UInt8.ofNat n.toNat:=by
 intro cs
 induction cs with
 | nil=>intro l h;cases h;exact ⟨[],rfl,rfl⟩
 | cons c r ih =>
  intro l h
  unfold bytesOf at h
  split at h
  ·rename_i hq;cases hq
  ·rename_i n r' hq
   cases hq
   simp only [Option.map_eq_some_iff] at h
   obtain ⟨l',hl',rfl⟩:=h
   obtain ⟨ns,rfl,rfl⟩:=ih hl'
   exact ⟨n :: ns,rfl,rfl⟩
  ·cases h
theorem push_all:∀ (ns:List Int) (b:ByteArray),ns.foldl (fun r n=>r.push (UInt8.ofNat n.toNat)) b=⟨b.data ++ (ns.map fun n=>UInt8.ofNat n.toNat).toArray⟩:=by
 intro ns
 induction ns with
 | nil=>intro b;simp
 | cons n ns ih =>
  intro b
  rw [List.foldl_cons,ih]
  congr 1
  simp [ByteArray.push]
theorem good_toStr {src dst el:TypeId} {x:Operand} {p:AO} (ho:o.op = .convert src dst x) (h1:P.underlying src=some (.slice el)) (h2:P.underlying dst=some .string) (h3:P.underlying el=some (.int .u8)) (hx:compO G x=some p) (e:ER G w phi im env a.tmps) (s:SR w phi im h)
  (hr:(aop slot env (.toStr p)).run slot h=some (v,h')):Good P o a w phi im v h':=by
 have hv:=compO_ok e hx
 simp only [aop] at hr
 split at hr
 ·cases hr
 ·rename_i hne
  split at hr
  ·rename_i hss
   have key:∀ {rs:Value},(Conv.bytesToString (a.eval x)).run P w = .ok rs w→(∃ b l c,a.eval x = .slice b l c)→(execOp a.eval o).run P w = .ok (.value rs) w:=by
    rintro rs hrun ⟨b,l,c,hav⟩
    rw [hav] at hrun
    simp only [execOp,ho,convert,Sem.run_bind,und_ok h1,und_ok h2,Result.andThen_ok,hav]
    cases b<;>simp only [und_ok h3,Result.andThen_ok,hrun,Sem.run_pure]
   obtain ⟨n,hn⟩:∃ n,slen (ev env p)=some n:=by
    generalize ev env p=q at hss
    cases q<;>first|exact ⟨_,rfl⟩|simp [ssz] at hss
   obtain ⟨cs,hk,hcl,hcells⟩:=scells_ok (P:=P) hv s hss hn hr
   obtain ⟨z,hz,hr'⟩:=run_ofOpt hk
   cases hr'
   simp only [Option.map_eq_some_iff] at hz
   obtain ⟨l,hl,rfl⟩:=hz
   obtain ⟨ns,rfl,rfl⟩:=bytesOf_ok hl
   obtain ⟨arr,g1,g2,g3⟩:=hcells n (Nat.le_refl _)
   have harr:arr=(ns.map (Value.int .u8)).toArray:=by
    apply Array.ext
    ·simp at hcl ⊢;omega
    ·intro i hi1 hi2
     simp at hi2
     have hg:=g3 i (.int .u8 ns[i]) (by simp at hcl;omega) (by simp [hi2])
     have:=hg.int_inv
     simp [Array.getD_eq_getD_getElem?,hi1] at this
     simp [this]
   have gw:=g1 w rfl
   generalize hq:ev env p=q at hv hn hss
   cases q with
   | is rows cap =>
    cases hn
    obtain ⟨base,b,ob,s2,rcap,hav,hbb,hl,hrows,_⟩:=hv.rows_inv
    rw [hav] at gw
    cases base with
    | none =>
     have hr0:rows.length=0:=by
      rcases Nat.eq_zero_or_pos rcap with g|g
      ·omega
      ·cases hbb g
     have hns:ns=[]:=by
      have:ns.length=0:=by simpa [hr0] using hcl
      exact List.eq_nil_of_length_eq_zero this
     subst hns
     refine .here s (rv:= .string .empty) (key (by rw [hav];rfl) ⟨_,_,_,hav⟩) ?_
     exact VR.str []
    | some ad =>
     simp only [Builtin.firstCells,Nat.mul_one] at gw
     rw [harr] at gw
     have:=run_bytesToString (P:=P) w ad rows.length rcap ns gw
     rw [push_all] at this
     refine .here s (key (by rw [hav];exact this) ⟨_,_,_,hav⟩) ?_
     simpa using VR.str (w:=w) (phi:=phi) (im:=im) (ns.map fun n=>UInt8.ofNat n.toNat)
   | ms id off len sz cap ex =>
    cases hn
    obtain ⟨b,sh,ob,rcap,el',nn,hav,_⟩:=hv.ms_inv
    rw [hav] at gw
    simp only [Builtin.firstCells,Nat.mul_one] at gw
    rw [harr] at gw
    have:=run_bytesToString (P:=P) w ⟨b,ob,none⟩ n rcap ns gw
    rw [push_all] at this
    refine .here s (key (by rw [hav];exact this) ⟨_,_,_,hav⟩) ?_
    simpa using VR.str (w:=w) (phi:=phi) (im:=im) (ns.map fun n=>UInt8.ofNat n.toNat)
   | str st=>exact absurd hq (hne st)
   | _=>simp [slen] at hn
  ·cases hr
theorem eqCells_true:∀ {ks:List CK} {xs ys:List AV},eqCells ks xs ys=some true→xs=ys∧∀ x ∈ xs,(∃ k n,x = .int k n)∨(∃ b,x = .bool b)∨∃ s,x = .str s:=by
 intro ks
 induction ks with
 | nil =>
  intro xs ys h
  obtain ⟨h1,h2⟩:=eqCells_len h
  obtain rfl:=List.eq_nil_of_length_eq_zero h1
  obtain rfl:=List.eq_nil_of_length_eq_zero h2
  exact ⟨rfl,fun x hx=>by simp at hx⟩
 | cons k ks ih =>
  intro xs ys h
  unfold eqCells at h
  split at h
  ·rename_i hq;cases hq
  ·rename_i k0 ks0 k1 a xs0 k2 c ys0 hq
   cases hq
   split at h
   ·rename_i hk
    simp only [Option.map_eq_some_iff] at h
    obtain ⟨b',hb',hq⟩:=h
    obtain ⟨rfl,rfl⟩:=hk
    simp only [Bool.and_eq_true,beq_iff_eq] at hq
    obtain ⟨rfl,rfl⟩:=hq
    obtain ⟨rfl,g⟩:=ih hb'
    exact ⟨rfl,fun x hx=>by
     rcases List.mem_cons.1 hx with rfl|hx
     ·exact .inl ⟨_,_,rfl⟩
     ·exact g x hx⟩
   ·cases h
  ·rename_i ks0 a xs0 c ys0 hq
   cases hq
   simp only [Option.map_eq_some_iff] at h
   obtain ⟨b',hb',hq⟩:=h
   simp only [Bool.and_eq_true,beq_iff_eq] at hq
   obtain ⟨rfl,rfl⟩:=hq
   obtain ⟨rfl,g⟩:=ih hb'
   exact ⟨rfl,fun x hx=>by
    rcases List.mem_cons.1 hx with rfl|hx
    ·exact .inr (.inl ⟨_,rfl⟩)
    ·exact g x hx⟩
  ·rename_i ks0 a xs0 c ys0 hq
   cases hq
   simp only [Option.map_eq_some_iff] at h
   obtain ⟨b',hb',hq⟩:=h
   simp only [Bool.and_eq_true,beq_iff_eq] at hq
   obtain ⟨rfl,rfl⟩:=hq
   obtain ⟨rfl,g⟩:=ih hb'
   exact ⟨rfl,fun x hx=>by
    rcases List.mem_cons.1 hx with rfl|hx
    ·exact .inr (.inr ⟨_,rfl⟩)
    ·exact g x hx⟩
  ·cases h
theorem keyCells_ok {g:Bool} {x:AV} {u:Value} (hv:VR w phi im x u) {cs:List AV} (h:keyCells g x=some cs):Shaped w phi im g cs u:=by
 have one:∀ {y:AV},(if (!g && isSc y)=true then some [y] else none)=some cs→VR w phi im y u→Shaped w phi im g cs u:=fun {y} h hv=>by
  split at h
  ·rename_i hc
   cases h
   cases g with
   | true=>cases hc
   | false=>exact ⟨y,rfl,hv⟩
  ·cases h
 unfold keyCells at h
 split at h
 ·rename_i l
  split at h
  ·rename_i hg
   cases h
   subst hg
   exact hv.agg_inv
  ·cases h
 ·exact one h hv
theorem scalar_one {x:AV} (hx:(∃ k n,x = .int k n)∨(∃ b,x = .bool b)∨∃ s,x = .str s) {u v:Value} (hu:VR w phi im x u) (hv:VR w phi im x v):u=v∧∀ n,Instr.sameBits n u v=true:=by
 rcases hx with ⟨k,n,rfl⟩|⟨b,rfl⟩|⟨s,rfl⟩
 ·rw [hu.int_inv,hv.int_inv];exact ⟨rfl,fun m=>by cases m<;>simp [Instr.sameBits]⟩
 ·rw [hu.bool_inv,hv.bool_inv];exact ⟨rfl,fun m=>by cases m<;>simp [Instr.sameBits]⟩
 ·rw [hu.str_inv,hv.str_inv];exact ⟨rfl,fun m=>by cases m<;>simp only [Instr.sameBits]<;>(show (s.toArray == s.toArray)=true;simp)⟩
theorem key_same {g:Bool} {ks:List CK} {xs ys:List AV} {u v:Value} (hu:Shaped w phi im g xs u) (hv:Shaped w phi im g ys v) (h:eqCells ks xs ys=some true) (n:Nat):Instr.sameBits (n+1) u v=true:=by
 obtain ⟨rfl,hsc⟩:=eqCells_true h
 cases g with
 | false =>
  obtain ⟨x,rfl,hx⟩:=hu
  obtain ⟨y,hq,hy⟩:=hv
  cases hq
  exact (scalar_one (hsc x (by simp)) hx hy).2 _
 | true =>
  obtain ⟨ax,rfl,h1,h2⟩:=hu
  obtain ⟨ay,rfl,h3,h4⟩:=hv
  simp only [Instr.sameBits,Bool.and_eq_true,beq_iff_eq]
  refine ⟨by omega,?_⟩
  rw [List.all_eq_true]
  rintro ⟨p,q⟩ hpq
  obtain ⟨i,hi,he⟩:=List.mem_iff_getElem.1 hpq
  simp only [List.length_zip,Array.length_toList] at hi
  simp only [List.getElem_zip,Array.getElem_toList,Prod.mk.injEq] at he
  have hx:xs[i]?=some xs[i]:=List.getElem?_eq_getElem (by omega)
  have g1:=h2 i _ hx
  have g2:=h4 i _ hx
  have e1:ax.getD i Go.undef=p:=by rw [← he.1];simp [Array.getD_eq_getD_getElem?,show i<ax.size by omega]
  have e2:ay.getD i Go.undef=q:=by rw [← he.2];simp [Array.getD_eq_getD_getElem?,show i<ay.size by omega]
  rw [e1] at g1
  rw [e2] at g2
  exact (scalar_one (hsc _ (List.getElem_mem _)) g1 g2).2 n
theorem check_shape:∀ (d:Nat) (t:TypeId) (ks:List CK),eqShape P d t=some ks→∀ (em:Bool) (D:Nat),d≤D→∀ (xs:List AV) (u:Value) (g:Bool) (b:Bool),eqCells ks xs xs=some b→tagg P t=some g →
  Shaped w phi im g xs u→(Instr.checkKey em D t u).run P w = .ok () w:=by
 intro d
 induction d with
 | zero=>intro t ks h;simp [eqShape] at h
 | succ d ih =>
  intro t ks h em D hD xs u g b hb hg hu
  obtain ⟨D,rfl⟩:∃ D',D=D'+1:=⟨D - 1,by omega⟩
  have plain:∀ (td:TypeDesc),P.underlying t=some td→(td = .bool∨td = .string∨∃ k,td = .int k)→(Instr.checkKey em (D+1) t u).run P w = .ok () w:=fun td hut htd=>by
   unfold Instr.checkKey
   simp only [Sem.run_bind,und_ok hut,Result.andThen_ok]
   rcases htd with rfl|rfl|⟨k,rfl⟩<;>simp
  simp only [eqShape] at h
  split at h
  ·rename_i k hut;exact plain _ hut (.inr (.inr ⟨k,rfl⟩))
  ·rename_i hut;exact plain _ hut (.inl rfl)
  ·rename_i hut;exact plain _ hut (.inr (.inl rfl))
  ·rename_i fs hut
   split at h
   ·cases h
   ·have hg':g=true:=by simpa [tagg,hut,aggD] using hg.symm
    subst hg'
    obtain ⟨ax,rfl,hax,hrx⟩:=hu
    have hb':eqCells ks (xs.drop 0) (xs.drop 0)=some b:=by simpa using hb
    have h0:0≤xs.length:=Nat.zero_le _
    rw [Instr.checkKey]
    simp only [Sem.run_bind,und_ok hut,Result.andThen_ok]
    rw [← Array.forIn_toList]
    clear hb hut hg plain
    generalize fs.toList=L at h ⊢
    generalize 0=off at h hb' h0
    induction L generalizing off ks b with
    | nil=>simp
    | cons f r ihf =>
     simp only [shapeGo] at h
     split at h
     ·cases h
     ·rename_i hname
      have hname : f.name ≠ "_" ∧ f.offset = off := by simpa using hname
      split at h
      ·cases h
      ·rename_i k0 hk0
       split at h
       ·cases h
       ·rename_i hts
        have hts:tsize P f.type=some k0.length:=by simpa using hts
        split at h
        ·cases h
        ·rename_i l hl
         cases h
         obtain ⟨b1,b2,e1,e2,rfl⟩:=eqCells_split hb'
         obtain ⟨l1,_⟩:=eqCells_len e1
         simp only [List.length_take,List.length_drop] at l1
         rw [List.drop_drop] at e2
         obtain ⟨u,g1,q1,q2,q3⟩:=part_shaped (w:=w) (phi:=phi) (im:=im) hk0 hts hax hrx (off:=off) (by omega)
         have r1:=ih f.type k0 hk0 em D (by omega) _ u g1 b1 e1 q1 q3
         have hn:=hname.1
         simp only [List.forIn_cons,Sem.run_bind,hn,ne_eq,not_false_eq_true,if_true,hname.2,q2,r1,Result.andThen_ok,Sem.run_pure]
         exact ihf l b2 (off+k0.length) hl e2 (by omega)
  ·cases h
theorem sameNow_equal {t:TypeId} {d:TypeDesc} (hu:P.underlying t=some d) {x y:Value} {c:Bool} (h:Instr.sameNow d x y=some c) (D:Nat):(Op.equalIn (D+1) t x y).run P w = .ok c w:=by
 unfold Instr.sameNow at h
 split at h
 ·split at h
  ·rename_i hk;cases h;subst hk;simp [Op.equalIn,und_ok hu]
  ·cases h
 ·cases h;simp [Op.equalIn,und_ok hu]
 ·cases h;simp [Op.equalIn,und_ok hu]
 ·cases h
def FoundR (w:World) (phi:Phi) (im:Imm):Option (Nat × AV)→Option (Nat × Value)→Prop
 | none,none=>True
 | some (i,v),some (j,u)=>i=j∧VR w phi im v u
 | _,_=>False
theorem find_ok {kt:TypeId} {d:TypeDesc} {kg:Bool} {ks:List CK} (hu:P.underlying kt=some d) (hk:eqShape P 9 kt=some ks) (hg:tagg P kt=some kg) {key:List AV} {ku:Value} (hku:Shaped w phi im kg key ku) :
  ∀ {es:List (AV × AV × Nat)} {res:List MapEntry} {i:Nat} {r:Option (Nat × AV)},res.length=es.length→(∀ (j:Nat) k v t,es[j]?=some (k,v,t)→∃ e,res[j]?=some e∧VR w phi im k e.key∧VR w phi im v e.val∧e.born=t)→findA kg ks key es i=some r →
   ∃ r',FoundR w phi im r r'∧(Instr.findAsking kt ku res i).run P w = .ok r' w∧(Instr.findNow d ku res i=none∨Instr.findNow d ku res i=some r'):=by
 intro es
 induction es with
 | nil =>
  intro res i r hl _ h
  cases h
  obtain rfl:=List.eq_nil_of_length_eq_zero hl
  exact ⟨none,trivial,by simp [Instr.findAsking],.inr rfl⟩
 | cons p es ih =>
  intro res i r hl hrel h
  obtain ⟨k,v,t⟩:=p
  cases res with
  | nil=>simp at hl
  | cons e res =>
   obtain ⟨e',he',h1,h2,_⟩:=hrel 0 k v t rfl
   simp at he'
   subst he'
   simp only [findA] at h
   split at h
   ·cases h
   ·rename_i k' hk'
    have hshape:=keyCells_ok h1 hk'
    have heq:∀ {b:Bool},eqCells ks key k'=some b→(Op.equal kt ku e.key).run P w = .ok b w:=fun {b} hb=>eq_shape 9 kt ks hk 10000 (by omega) key k' ku e.key b kg hb hg hku hshape
    have hnow:∀ {b c:Bool},eqCells ks key k'=some b→Instr.sameNow d ku e.key=some c→c=b:=fun {b c} hb hc=>by
     have q1:=heq hb
     have q2:=sameNow_equal (P:=P) (w:=w) hu hc 9999
     rw [show Op.equal kt ku e.key=Op.equalIn (9999+1) kt ku e.key from rfl,q2] at q1
     cases q1;rfl
    split at h
    ·rename_i hb
     cases h
     refine ⟨some (i,e.val),⟨rfl,h2⟩,by simp [Instr.findAsking,heq hb],?_⟩
     simp only [Instr.findNow]
     cases hc:Instr.sameNow d ku e.key with
     | none=>exact .inl rfl
     | some c=>obtain rfl:=hnow hb hc;exact .inr rfl
    ·rename_i hb
     obtain ⟨r',g1,g2,g3⟩:=ih (res:=res) (i:=i+1) (by simpa using hl) (fun j k v t hj=>by simpa using hrel (j+1) k v t (by simpa using hj)) h
     refine ⟨r',g1,by simp [Instr.findAsking,heq hb,g2],?_⟩
     simp only [Instr.findNow]
     cases hc:Instr.sameNow d ku e.key with
     | none=>exact .inl rfl
     | some c=>obtain rfl:=hnow hb hc;exact g3
    ·cases h
theorem findKey_ok {kt:TypeId} {d:TypeDesc} {kg:Bool} {ks:List CK} (hu:P.underlying kt=some d) (hk:eqShape P 9 kt=some ks) (hg:tagg P kt=some kg) {key:List AV} {ku:Value} (hku:Shaped w phi im kg key ku)
  {es:List (AV × AV × Nat)} {res:List MapEntry} {r:Option (Nat × AV)} (hl:res.length=es.length) (hrel:∀ (j:Nat) k v t,es[j]?=some (k,v,t)→∃ e,res[j]?=some e∧VR w phi im k e.key∧VR w phi im v e.val∧e.born=t) (h:findA kg ks key es 0=some r) :
  ∃ r',FoundR w phi im r r'∧(Instr.findKey kt ku res).run P w = .ok r' w:=by
 obtain ⟨r',g1,g2,g3⟩:=find_ok (P:=P) hu hk hg hku hl hrel h
 refine ⟨r',g1,?_⟩
 rcases g3 with g|g<;>simp [Instr.findKey,und_ok hu,g,g2]
theorem findA_at {kg:Bool} {ks:List CK} {key:List AV}:∀ {es:List (AV × AV × Nat)} {i j:Nat} {v:AV},findA kg ks key es i=some (some (j,v))→i≤j∧∃ k t k',es[j - i]?=some (k,v,t)∧keyCells kg k=some k'∧eqCells ks key k'=some true:=by
 intro es
 induction es with
 | nil=>intro i j v h;cases h
 | cons p es ih =>
  intro i j v h
  obtain ⟨k,u,t⟩:=p
  simp only [findA] at h
  split at h
  ·cases h
  ·rename_i k' hk'
   split at h
   ·rename_i hb
    cases h
    exact ⟨Nat.le_refl _,k,t,k',by simp,hk',hb⟩
   ·obtain ⟨h1,k2,t2,k2',h2,h3⟩:=ih h
    refine ⟨by omega,k2,t2,k2',?_,h3⟩
    rw [show j - i=(j - (i+1))+1 by omega]
    simpa using h2
   ·cases h
theorem good_mkMap {t:TypeId} (ho:o.op = .makeMap t none) (s:SR w phi im h) (hr:(aop slot env .mkMap).run slot h=some (v,h')):Good P o a w phi im v h':=by
 obtain ⟨b0,hs,hf,hk⟩:=run_new hr
 cases run_done hk
 obtain ⟨s',p'⟩:=s.new hs hf (w':={ w with heap:=w.heap.push (.map #[] 0) }) (ob:= .map #[] 0) rfl rfl rfl rfl im (fun _ _ h=>h) (fun _ _ h => .inl h) (k:= .map [] 0) (sh:=0)
  (fun p=>⟨rfl,#[],by simp,rfl,fun j k v t hj=>by simp at hj⟩)
 refine ⟨_,.map (some w.heap.size),_,_,im,?_,.inl rfl,.mm slot _ (phiAt_self ..),s',p'⟩
 simp [execOp,ho,Instr.makeMap]
theorem keyShape_inv {t:TypeId} {kg:Bool} {ks:List CK} (h:keyShape P t=some (kg,ks)):tagg P t=some kg∧eqShape P 9 t=some ks∧∃ d,P.underlying t=some d:=by
 unfold keyShape at h
 split at h
 ·rename_i g ks' n h1 h2 h3
  split at h
  ·cases h
   refine ⟨h1,h2,?_⟩
   simp only [tagg,Option.map_eq_some_iff] at h1
   obtain ⟨d,hd,_⟩:=h1
   exact ⟨d,hd⟩
  ·cases h
 ·cases h
theorem zval_ok {t:TypeId} {z:AV} (h:zval P t=some z):∃ zv:Value,(∀ w,(zeroValue t).run P w = .ok zv w)∧∀ (w:World) (im:Imm),IR w im z zv:=by
 unfold zval at h
 split at h
 ·rename_i i hi
  split at h
  ·rename_i zv hz
   exact ⟨zv,fun w=>by simp [zeroValue,typeInfo,hi,hz],fun w im=>compV_ok h⟩
  ·cases h
 ·cases h
theorem found_ok {z:AV} {zv:Value} (hz:VR w phi im z zv) {r:Option (Nat × AV)} {r':Option (Nat × Value)} (h:FoundR w phi im r r') (ok:Bool) :
  VR w phi im (found z ok r) (match r' with|some (_,u)=>if ok then .tuple #[u,.bool true] else u|none=>if ok then .tuple #[zv,.bool false] else zv):=by
 have tup:∀ {x:AV} {u:Value} {b:Bool},VR w phi im x u→VR w phi im (.tup [x,.bool b]) (.tuple #[u,.bool b]):=fun {x u b} hx => .tup _ _ rfl fun i y hy=>by
  match i,hy with
  | 0,hy=>simp at hy;subst hy;simpa using hx
  | 1,hy=>simp at hy;subst hy;simpa using VR.bool b
  | i+2,hy=>simp at hy
 cases r with
 | none =>
  cases r' with
  | none=>cases ok<;>simp only [found,if_true,Bool.false_eq_true,if_false];exact hz;exact tup hz
  | some _=>exact h.elim
 | some p =>
  cases r' with
  | none=>exact h.elim
  | some q=>cases ok<;>simp only [found,if_true,Bool.false_eq_true,if_false];exact h.2;exact tup h.2
theorem run_getObj_map' {w:World} {r:Nat} {es:Array MapEntry} {clock:Nat} (hb:w.heap[r]?=some (.map es clock)):(getObj r).run P w = .ok (.map es clock) w:=by
 simp [getObj,Sem.run,hb]
theorem run_setObj_map' {w:World} {r:Nat} {es:Array MapEntry} {clock:Nat} (o:Obj) (hb:w.heap[r]?=some (.map es clock)):(setObj r o).run P w = .ok () { w with heap:=w.heap.setIfInBounds r o }:=by
 simp [setObj,Sem.run,hb]
theorem good_lookup {t kt et:TypeId} {x i:Operand} {ok:Bool} {kg:Bool} {ks:List CK} {z:AV} {p q:AO} (ho:o.op = .lookup t x i ok) (hu:P.underlying t=some (.map kt et)) (hk:keyShape P kt=some (kg,ks)) (hz:zval P et=some z)
  (hx:compO G x=some p) (hi:compO G i=some q) (e:ER G w phi im env a.tmps) (s:SR w phi im h)
  (hr:(aop slot env (.lookup kg ks z ok p q)).run slot h=some (v,h')):Good P o a w phi im v h':=by
 obtain ⟨k1,k2,d,k3⟩:=keyShape_inv hk
 have hvx:=compO_ok e hx
 have hvi:=compO_ok e hi
 obtain ⟨zv,hrun,hval⟩:=zval_ok hz
 simp only [aop] at hr
 split at hr
 ·cases hr
 ·rename_i key hkey
  split at hr
  ·cases hr
  ·rename_i hkok
   obtain ⟨b,hb⟩:∃ b,eqCells ks key key=some b:=Option.isSome_iff_exists.1 (by cases hh:(eqCells ks key key).isSome with|true=>rfl|false=>exact absurd (by simp [keyOK,hh]) hkok)
   have hku:=keyCells_ok hvi hkey
   have hcheck:∀ em,(Instr.checkKey em 10000 kt (a.eval i)).run P w = .ok () w:=fun em=>check_shape 9 kt ks k2 em 10000 (by omega) key _ kg b hb k1 hku
   have fin:∀ {es:Array MapEntry} {r:Option (Nat × AV)} {r':Option (Nat × Value)},(a.eval x = .map none∧es=#[]∨∃ b ck,a.eval x = .map (some b)∧w.heap[b]?=some (.map es ck))→FoundR w phi im r r'→(Instr.findKey kt (a.eval i) es.toList).run P w = .ok r' w →
     Good P o a w phi im (found z ok r) h:=fun {es r r'} hes hf hfind=>by
    refine .here s ?_ (found_ok (.imm (hval w im)) hf ok)
    rcases hes with ⟨h1,rfl⟩|⟨b,ck,h1,h2⟩
    ·simp only [execOp,ho,Instr.lookup,Sem.run_bind,und_ok hu,Result.andThen_ok,h1,Sem.run_pure,hcheck,hfind]
     cases r' with
     | none=>cases ok<;>simp [hrun]
     | some p=>cases ok<;>simp
    ·simp only [execOp,ho,Instr.lookup,Sem.run_bind,und_ok hu,Result.andThen_ok,h1,Sem.run_pure,run_getObj_map' (P:=P) h2,hcheck,hfind]
     cases r' with
     | none=>cases ok<;>simp [hrun]
     | some p=>cases ok<;>simp
   split at hr
   ·rename_i hq
    rw [hq] at hvx
    cases run_done hr
    obtain ⟨r',g1,g2⟩:=findKey_ok (P:=P) (w:=w) (phi:=phi) (im:=im) k3 k2 k1 hku (es:=[]) (res:=[]) (r:=none) rfl (fun j k v t hj=>by simp at hj) rfl
    exact fin (es:=#[]) (.inl ⟨hvx.nilm_inv,rfl⟩) g1 g2
   ·rename_i id hq
    rw [hq] at hvx
    obtain ⟨bm,hp,hav⟩:=hvx.mm_inv
    obtain ⟨blk,hbk,hfree,hk2⟩:=run_rd hr
    split at hk2
    ·rename_i es ck
     obtain ⟨u,hu',hr'⟩:=run_ofOpt hk2
     cases hr'
     simp only [Option.map_eq_some_iff] at hu'
     obtain ⟨r,hfa,rfl⟩:=hu'
     obtain ⟨b',res,g1,g2,g3,g4⟩:=s.map id es ck hbk
     rw [hp] at g1
     cases g1
     obtain ⟨r',q1,q2⟩:=findKey_ok (P:=P) (w:=w) (phi:=phi) (im:=im) k3 k2 k1 hku (es:=es) (res:=res.toList) (by simpa using g3) (fun j k v t hj=>by
      obtain ⟨e',e1,e2⟩:=g4 j k v t hj
      exact ⟨e',by simpa using e1,e2⟩) hfa
     exact fin (es:=res) (.inr ⟨_,_,hav,g2⟩) q1 q2
    ·cases hk2
   ·cases hr
theorem SR.remap (s:SR w phi im h) {id:Nat} {es0:List (AV × AV × Nat)} {ck0:Nat} (hid:h[id]?=some (.map es0 ck0)) {b:Nat} (hp:phi id=some (b,0)) {res0:Array MapEntry} (hb:w.heap[b]?=some (.map res0 ck0))
  {es:List (AV × AV × Nat)} {ck:Nat} {res:Array MapEntry} (hl:res.size=es.length) (hrel:∀ (j:Nat) k v t,es[j]?=some (k,v,t)→∃ e,res[j]?=some e∧VR w phi im k e.key∧VR w phi im v e.val∧e.born=t) :
  SR { w with heap:=w.heap.setIfInBounds b (.map res ck) } phi im (h.set id (.map es ck))∧Post w phi im { w with heap:=w.heap.setIfInBounds b (.map res ck) } phi im:=by
 have hlt:b<w.heap.size:=s.lt id _ hp
 have s1:=s.kill hid
 have hlive:live h id:=⟨_,hid,.inr (.inl ⟨_,_,rfl⟩)⟩
 have hnow:({ w with heap:=w.heap.setIfInBounds b (.map res ck) }:World).heap[b]?=some (.map res ck):=by simp [hlt]
 obtain ⟨p1,t1⟩:=s1.turn (b:=b) (w':={ w with heap:=w.heap.setIfInBounds b (.map res ck) }) rfl rfl rfl (by simp) (fun k hk=>by simp [Ne.symm hk]) (fun t ht=>by simp [World.shape?,hb] at ht) (fun o _=>by simp only [World.cell?,hnow,hb])
  ⟨id,_,hp,rfl⟩ im (fun _ _ h=>h) fun _ _ h => .inl h
 have hal:=s.alone hlive hp
 have s3:=(t1 hal).revive (List.getElem?_set_self (set_lt hid)) hp (k:= .map es ck) ⟨rfl,res,hnow,hl,fun j k v t hj=>by
  obtain ⟨e,e1,e2,e3,e4⟩:=hrel j k v t hj
  exact ⟨e,e1,p1.mono e2,p1.mono e3,e4⟩⟩ hal
 rw [List.set_set] at s3
 exact ⟨s3,p1⟩
theorem good_mapUpdate {t kt et:TypeId} {x i y:Operand} {kg:Bool} {ks:List CK} {p q r:AO} (ho:o.op = .mapUpdate t x i y) (hu:P.underlying t=some (.map kt et)) (hk:keyShape P kt=some (kg,ks))
  (hx:compO G x=some p) (hi:compO G i=some q) (hy:compO G y=some r) (e:ER G w phi im env a.tmps) (s:SR w phi im h)
  (hr:(aop slot env (.mapUpdate kg ks p q r)).run slot h=some (v,h')):Good P o a w phi im v h':=by
 obtain ⟨k1,k2,d,k3⟩:=keyShape_inv hk
 have hvx:=compO_ok e hx
 have hvi:=compO_ok e hi
 have hvy:=compO_ok e hy
 simp only [aop] at hr
 split at hr
 ·cases hr
 ·rename_i key hkey
  split at hr
  ·cases hr
  ·rename_i hkok
   obtain ⟨b,hb⟩:∃ b,eqCells ks key key=some b:=Option.isSome_iff_exists.1 (by cases hh:(eqCells ks key key).isSome with|true=>rfl|false=>exact absurd (by simp [keyOK,hh]) hkok)
   have hku:=keyCells_ok hvi hkey
   have hcheck:∀ em,(Instr.checkKey em 10000 kt (a.eval i)).run P w = .ok () w:=fun em=>check_shape 9 kt ks k2 em 10000 (by omega) key _ kg b hb k1 hku
   split at hr
   ·rename_i id hq
    rw [hq] at hvx
    obtain ⟨bm,hp,hav⟩:=hvx.mm_inv
    obtain ⟨blk,hbk,hfree,hk2⟩:=run_rd hr
    split at hk2
    ·rename_i es ck
     obtain ⟨b',res,g1,g2,g3,g4⟩:=s.map id es ck hbk
     rw [hp] at g1
     cases g1
     have find:∀ {r:Option (Nat × AV)},findA kg ks key es 0=some r→∃ r',FoundR w phi im r r'∧(Instr.findKey kt (a.eval i) res.toList).run P w = .ok r' w:=fun {r} hfa =>
      findKey_ok (P:=P) (w:=w) (phi:=phi) (im:=im) k3 k2 k1 hku (es:=es) (res:=res.toList) (by simpa using g3) (fun j k v t hj=>by
       obtain ⟨e',e1,e2⟩:=g4 j k v t hj
       exact ⟨e',by simpa using e1,e2⟩) hfa
     have hgo:=run_getObj_map' (P:=P) g2
     split at hk2
     ·rename_i j vv hfa
      obtain ⟨b1,hb1,_,hk3⟩:=run_wr hk2
      cases run_done hk3
      obtain ⟨r',q1,q2⟩:=find hfa
      cases r' with
      | none=>exact q1.elim
      | some pr =>
       obtain ⟨j',u⟩:=pr
       obtain ⟨rfl,_⟩:=q1
       obtain ⟨_,k0,t0,k0',e1,e2,e3⟩:=findA_at hfa
       rw [Nat.sub_zero] at e1
       obtain ⟨me,f1,f2,f3,f4⟩:=g4 _ _ _ _ e1
       have hsame:Instr.sameBits 10000 me.key (a.eval i)=true:=by
        have hs0:=keyCells_ok f2 e2
        obtain ⟨hkk,_⟩:=eqCells_true e3
        subst hkk
        exact key_same hs0 hku e3 9999
       obtain ⟨r1,r2⟩:=s.remap (res:=res.modify j fun me=>{ me with key:=a.eval i,val:=a.eval y }) (es:=es.modify j fun e=>(ev env q,ev env r,e.2.2)) (ck:=ck) hbk hp g2 (by simpa using g3) (fun l k v t hl=>by
        rw [List.getElem?_modify] at hl
        cases hel:es[l]? with
        | none=>rw [hel] at hl;simp at hl
        | some tr =>
         obtain ⟨k9,v9,t9⟩:=tr
         obtain ⟨me9,m1,m2,m3,m4⟩:=g4 _ _ _ _ hel
         rw [hel] at hl
         simp only [Option.map_eq_map,Option.map_some,Option.some.injEq] at hl
         by_cases hjl:j=l
         ·rw [if_pos hjl] at hl
          cases hl
          exact ⟨{ me9 with key:=a.eval i,val:=a.eval y },by rw [Array.getElem?_modify,if_pos hjl,m1];rfl,hvi,hvy,m4⟩
         ·rw [if_neg hjl] at hl
          cases hl
          exact ⟨me9,by rw [Array.getElem?_modify,if_neg hjl];exact m1,m2,m3,m4⟩)
       refine ⟨.skip,Go.undef,_,phi,im,?_,.inr ⟨rfl,rfl⟩,.undef _,r1,r2⟩
       have hkey':((res[j]?).map (·.key)).getD (a.eval i)=me.key:=by rw [f1];rfl
       simp only [execOp,ho,Instr.mapUpdate,Sem.run_bind,und_ok hu,Result.andThen_ok,hav,hgo,hcheck,q2,hkey',Instr.keyThatStays,hsame,if_true,Sem.run_pure,run_setObj_map' (P:=P) _ g2]
     ·rename_i hfa
      obtain ⟨b1,hb1,_,hk3⟩:=run_wr hk2
      cases run_done hk3
      obtain ⟨r',q1,q2⟩:=find hfa
      cases r' with
      | some pr=>exact q1.elim
      | none =>
       obtain ⟨r1,r2⟩:=s.remap (res:=res.push { key:=a.eval i,val:=a.eval y,born:=ck }) (es:=es ++ [(ev env q,ev env r,ck)]) (ck:=ck+1) hbk hp g2 (by simp [g3]) (fun l k v t hl=>by
        rw [List.getElem?_append] at hl
        split at hl
        ·rename_i hlt
         obtain ⟨me9,m1,m2⟩:=g4 _ _ _ _ hl
         exact ⟨me9,by rw [Array.getElem?_push,if_neg (by omega)];exact m1,m2⟩
        ·rename_i hge
         have hl1:l - es.length<1:=set_lt hl
         have hl0:l - es.length=0:=by omega
         rw [hl0] at hl
         simp at hl
         obtain ⟨rfl,rfl,rfl⟩:=hl
         exact ⟨_,by rw [Array.getElem?_push,if_pos (by omega)],hvi,hvy,rfl⟩)
       refine ⟨.skip,Go.undef,_,phi,im,?_,.inr ⟨rfl,rfl⟩,.undef _,r1,r2⟩
       simp only [execOp,ho,Instr.mapUpdate,Sem.run_bind,und_ok hu,Result.andThen_ok,hav,hgo,hcheck,q2,Sem.run_pure,run_setObj_map' (P:=P) _ g2]
     ·cases hk2
    ·cases hk2
   ·cases hr
theorem good_mkIface {t:TypeId} {x:Operand} {p:AO} (ho:o.op = .makeInterface t x) (hc:isConc P t=true) (hx:compO G x=some p) (e:ER G w phi im env a.tmps) (s:SR w phi im h)
  (hr:(aop slot env (.mkIface t p)).run slot h=some (v,h')):Good P o a w phi im v h':=by
 cases run_done hr
 refine .here s ?_ (.ifc t _ _ (compO_ok e hx))
 unfold isConc at hc
 split at hc
 ·cases hc
 ·rename_i d hd hu
  simp only [execOp,ho,Instr.makeInterface,Sem.run_bind,und_ok hu,Result.andThen_ok]
  cases d<;>first|exact absurd rfl (hd _)|rfl
 ·cases hc
theorem arr2 {α:Type} {l:Array α} {x y:α} (h:l.toList=[x,y]):l=#[x,y]:=by
 cases l;simp_all
theorem arr1 {α:Type} {l:Array α} {x:α} (h:l.toList=[x]):l=#[x]:=by
 cases l;simp_all
def entry:ExtK→(Array Value→Sem Value)
 | .idxByte=>Extern.BytealgIndexByte.indexByte
 | .count=>Extern.BytealgCount.count
 | .same=>Extern.AbiNoEscape.same
def XOK (P : Program) (G : GTab) : Prop := ∀ f k, G.xt f = some k → ∃ fn, P.funcs[f]? = some fn ∧ (fn.name == "runtime.NumGoroutine") = false ∧ fn.body.isNone = true ∧ Extern.findNext fn = none ∧ Extern.find fn = some (entry k)
theorem arrOf2 {l:Array Value} (h:l.size=2):l=#[l.getD 0 Go.undef,l.getD 1 Go.undef]:=by
 obtain ⟨l⟩:=l
 match l,h with
 | [x,y],_=>rfl
theorem arrOf1 {l:Array Value} (h:l.size=1):l=#[l.getD 0 Go.undef]:=by
 obtain ⟨l⟩:=l
 match l,h with
 | [x],_=>rfl
theorem ext_entry {k:ExtK} {xs:List AV} {rs:Array Value} (hn:rs.size=xs.length) (hr:∀ (i:Nat) x,xs[i]?=some x→VR w phi im x (rs.getD i Go.undef)) {v:AV} (hv:aext k xs=some v):∃ rv,(entry k rs).run P w = .ok rv w∧VR w phi im v rv:=by
 unfold aext at hv
 split at hv
 ·rename_i sv cv
  cases hv
  have e0:=(hr 0 _ rfl).str_inv
  have e1:=(hr 1 _ rfl).int_inv
  rw [arrOf2 (l:=rs) hn,e0,e1]
  have h0:=Go.Lib.run_indexByteString (P:=P) ⟨sv.toArray⟩ cv w
  exact ⟨_,h0,.imm (.int _ _)⟩
 ·rename_i sv cv
  cases hv
  have e0:=(hr 0 _ rfl).str_inv
  have e1:=(hr 1 _ rfl).int_inv
  rw [arrOf2 (l:=rs) hn,e0,e1]
  have h0:=Go.Lib.run_countString (P:=P) ⟨sv.toArray⟩ cv w
  exact ⟨_,h0,.imm (.int _ _)⟩
 ·cases hv
  rw [arrOf1 (l:=rs) hn]
  exact ⟨_,rfl,hr 0 _ rfl⟩
 ·cases hv
theorem good_ext (hx:XOK P G) {f:Nat} {k:ExtK} {args:Array Operand} {ats:Array TypeId} {l:List AO} (ho:o.op = .call ⟨.value (.func f),args,ats⟩) (hk:G.xt f=some k) (hl:compOL G args.toList=some l) (e:ER G w phi im env a.tmps) (s:SR w phi im h)
  (hr:(aop slot env (.ext k l)).run slot h=some (v,h')):Good P o a w phi im v h':=by
 obtain ⟨v',hv,hq⟩:=run_ofOpt hr
 cases hq
 obtain ⟨ha1,ha2⟩:=evalL_ok (a:=a) e hl
 obtain ⟨fn,h1,h2,h3,h4,h5⟩:=hx f k hk
 obtain ⟨rv,hrv,hvr⟩:=ext_entry (P:=P) ha1 ha2 hv
 refine .here s ?_ hvr
 have hev:a.eval (.func f) = .func (.func f) #[] #[]:=rfl
 simp only [execOp,ho,resolve,hev,Deferred.ofValue,Sem.run_bind,Sem.run_pure,Result.andThen_ok,invoke]
 have:=run_callFunc_extern h1 h2 h3 h4 h5 (args.map a.eval) w
 simp only [Array.empty_append,Array.append_empty] at this ⊢
 rw [this,hrv]
 rfl
theorem call_sound (hx:XOK P G) {c:Call} {ao:AOp} (ho:o.op = .call c) {vl:Bool} (hc:compCall P G vl c=some ao) (e:ER G w phi im env a.tmps) (s:SR w phi im h)
  (hr:(aop slot env ao).run slot h=some (v,h')):Good P o a w phi im v h':=by
 obtain ⟨callee,args,ats⟩:=c
 unfold compCall at hc
 split at hc
 ·rename_i f hcal
  simp only at hcal
  subst hcal
  split at hc
  ·rename_i g l hg hl
   split at hc
   ·rename_i k hk
    cases hc
    cases f with
    | func f=>exact good_ext hx ho hk hl e s hr
    | _=>cases hk
   ·cases hc;cases hr
  ·cases hc
 ·rename_i x t hcal hargs hats
  simp only at hcal hargs hats
  subst hcal
  obtain rfl:=arr1 hargs
  obtain rfl:=arr1 hats
  split at hc
  ·rename_i y hy hu;cases hc;exact good_len ho (.inl ⟨rfl,hu⟩) hy e s hr
  ·rename_i y el hy hu;cases hc;exact good_len ho (.inr (.inl ⟨rfl,_,hu⟩)) hy e s hr
  ·rename_i y k el hy hu;cases hc;exact good_len ho (.inr (.inr ⟨rfl,_,_,hu⟩)) hy e s hr
  ·rename_i y n el hy hu
   cases hc
   cases run_done hr
   exact good_lenArr ho hu s
  ·cases hc
 ·rename_i x y t u hcal hargs hats
  simp only at hcal hargs hats
  subst hcal
  obtain rfl:=arr2 hargs
  obtain rfl:=arr2 hats
  split at hc
  ·rename_i p q el hp hq hu hint
   split at hc
   ·rename_i sz by_ z hs hb hz
    split at hc
    ·rename_i hcond
     cases hc
     exact good_append ho hu hint hs hb hz hcond.2.2 hcond.1 hcond.2.1 hp hq e s hr
    ·cases hc
   ·cases hc
  ·cases hc
 ·rename_i x y t u hcal hargs hats
  simp only at hcal hargs hats
  subst hcal
  obtain rfl:=arr2 hargs
  obtain rfl:=arr2 hats
  split at hc
  ·rename_i p q el hp hq hu
   split at hc
   ·rename_i sz hs
    split at hc
    ·cases hc;exact good_copy ho hu hs hp hq e s hr
    ·cases hc
   ·cases hc
  ·cases hc
 ·rename_i x t hcal hargs hats
  simp only at hcal hargs hats
  subst hcal
  obtain rfl:=arr1 hargs
  obtain rfl:=arr1 hats
  split at hc
  ·rename_i p el hp hu
   split at hc
   ·rename_i sz z hs hz
    split at hc
    ·cases hc;exact good_clear ho hu hz hp e s hr
    ·cases hc
   ·cases hc
  ·cases hc
 ·rename_i x y hcal hargs
  simp only at hcal hargs
  subst hcal
  obtain rfl:=arr2 hargs
  split at hc
  ·rename_i p q hp hq;cases hc;exact good_min ho hp hq e s hr
  ·cases hc
 ·rename_i x y hcal hargs
  simp only at hcal hargs
  subst hcal
  obtain rfl:=arr2 hargs
  split at hc
  ·rename_i p q hp hq;cases hc;exact good_max ho hp hq e s hr
  ·cases hc
 ·cases hc
theorem bin_sound {op:BinOp} {t yt:TypeId} {x y:Operand} {p q:AO} {ao:AOp} (ho:o.op = .binOp op t x y yt) (hp:compO G x=some p) (hq:compO G y=some q) (hc:compBin P op t p q=some ao) (e:ER G w phi im env a.tmps) (s:SR w phi im h)
  (hr:(aop slot env ao).run slot h=some (v,h')):Good P o a w phi im v h':=by
 unfold compBin at hc
 split at hc
 ·cases hc;exact good_bin ho hp hq e s hr
 ·cases hc;exact good_bin ho hp hq e s hr
 ·cases hc;exact good_bin ho hp hq e s hr
 ·cases hc;exact good_bin ho hp hq e s hr
 ·rename_i hu;cases hc;exact good_eq ho (.inl rfl) (.inl ⟨rfl,hu⟩) hp hq e s hr
 ·rename_i hu;cases hc;exact good_eq ho (.inr rfl) (.inl ⟨rfl,hu⟩) hp hq e s hr
 ·rename_i hu;cases hc;exact good_eq ho (.inl rfl) (.inr (.inl ⟨rfl,_,hu⟩)) hp hq e s hr
 ·rename_i hu;cases hc;exact good_eq ho (.inr rfl) (.inr (.inl ⟨rfl,_,hu⟩)) hp hq e s hr
 ·rename_i hu;cases hc;exact good_eq ho (.inl rfl) (.inr (.inr (.inl ⟨rfl,_,hu⟩))) hp hq e s hr
 ·rename_i hu;cases hc;exact good_eq ho (.inr rfl) (.inr (.inr (.inl ⟨rfl,_,hu⟩))) hp hq e s hr
 ·rename_i hu;cases hc;exact good_eq ho (.inl rfl) (.inr (.inr (.inr (.inl ⟨rfl,_,_,hu⟩)))) hp hq e s hr
 ·rename_i hu;cases hc;exact good_eq ho (.inr rfl) (.inr (.inr (.inr (.inl ⟨rfl,_,_,hu⟩)))) hp hq e s hr
 ·rename_i hu;cases hc;exact good_eq ho (.inl rfl) (.inr (.inr (.inr (.inr ⟨rfl,_,_,_,hu⟩)))) hp hq e s hr
 ·rename_i hu;cases hc;exact good_eq ho (.inr rfl) (.inr (.inr (.inr (.inr ⟨rfl,_,_,_,hu⟩)))) hp hq e s hr
 ·rename_i hu
  split at hc
  ·rename_i hcc;cases hc;exact good_eqI ho (.inl rfl) hu hcc hp hq e s hr
  ·cases hc
 ·rename_i hu
  split at hc
  ·rename_i hcc;cases hc;exact good_eqI ho (.inr rfl) hu hcc hp hq e s hr
  ·cases hc
 ·rename_i fs hu
  split at hc
  ·rename_i hd
   simp only [Option.map_eq_some_iff] at hc
   obtain ⟨ks,hk,rfl⟩:=hc
   exact good_eqAgg ho (.inl rfl) hu hd hk hp hq e s hr
  ·cases hc
 ·rename_i fs hu
  split at hc
  ·rename_i hd
   simp only [Option.map_eq_some_iff] at hc
   obtain ⟨ks,hk,rfl⟩:=hc
   exact good_eqAgg ho (.inr rfl) hu hd hk hp hq e s hr
  ·cases hc
 ·cases hc
 ·cases hc
 ·cases hc;exact good_bin ho hp hq e s hr
theorem conv_sound {src dst:TypeId} {x:Operand} {p:AO} {ao:AOp} (ho:o.op = .convert src dst x) (hp:compO G x=some p) {vl:Bool} (hc:compConv P vl src dst p=some ao) (e:ER G w phi im env a.tmps) (s:SR w phi im h)
  (hr:(aop slot env ao).run slot h=some (v,h')):Good P o a w phi im v h':=by
 have u8:∀ {el:TypeId},isU8 P el=true→P.underlying el=some (.int .u8):=fun {el} hb=>by
  unfold isU8 at hb
  split at hb
  ·assumption
  ·cases hb
 unfold compConv at hc
 split at hc
 ·rename_i j k h1 h2;cases hc;exact good_conv ho h1 h2 hp e s hr
 ·rename_i h1 h2;cases hc;exact good_strId ho h1 (.inl rfl) h2 hp e s hr
 ·rename_i k h1 h2;cases hc;exact good_strId ho h1 (.inr ⟨k,rfl⟩) h2 hp e s hr
 ·rename_i el h1 h2
  split at hc
  ·rename_i hb;cases hc;exact good_toStr ho h1 h2 (u8 hb) hp e s hr
  ·cases hc
 ·rename_i el h1 h2
  split at hc
  ·rename_i hb;cases hc;exact good_toBytes ho h1 h2 (u8 hb.1) hp e s hr
  ·cases hc
 ·cases hc
theorem aop1_sound (hx:XOK P G) {ao:AOp} {vl:Bool} (hc:compOp1 P G vl o.op=some ao) (e:ER G w phi im env a.tmps) (s:SR w phi im h)
  (hr:(aop slot env ao).run slot h=some (v,h')):Good P o a w phi im v h':=by
 generalize ho:o.op=op at hc
 have hfull:=hc
 cases op<;>simp only [compOp1] at hc
 case move x =>
  simp only [Option.map_eq_some_iff] at hc
  obtain ⟨y,hy,rfl⟩:=hc
  cases run_done hr
  exact good_move (.inl ho) hy e s
 case assign x =>
  simp only [Option.map_eq_some_iff] at hc
  obtain ⟨y,hy,rfl⟩:=hc
  cases run_done hr
  exact good_move (.inr ho) hy e s
 case pick c x y =>
  split at hc
  ·rename_i c' x' y' h1 h2 h3;cases hc;exact good_pick ho h1 h2 h3 e s hr
  ·cases hc
 case alloc t =>
  simp only [Option.map_eq_some_iff] at hc
  obtain ⟨z,hz,rfl⟩:=hc
  exact good_alloc ho hz s hr
 case box t x =>
  simp only [Option.map_eq_some_iff] at hc
  obtain ⟨z,hz,rfl⟩:=hc
  exact good_box ho hz e s hr
 case build t ps=>exact good_build ho hfull e s hr
 case buildSlice t n ps=>exact good_buildSlice ho hfull e s hr
 case load t x =>
  split at hc
  ·rename_i g sz p h1 h2 h3;cases hc;exact good_load ho h1 h2 h3 e s hr
  ·cases hc
 case store t x y =>
  split at hc
  ·rename_i sz p q h1 h2 h3;cases hc;exact good_store ho h1 h2 h3 e s hr
  ·cases hc
 case nilCheck x =>
  simp only [Option.map_eq_some_iff] at hc
  obtain ⟨z,hz,rfl⟩:=hc
  exact good_nilCheck ho hz e s hr
 case binOp op t x y yt =>
  split at hc
  ·rename_i p q hp hq;exact bin_sound ho hp hq hc e s hr
  ·cases hc
 case unOp op t x =>
  simp only [Option.map_eq_some_iff] at hc
  obtain ⟨z,hz,rfl⟩:=hc
  exact good_un ho hz e s hr
 case convert src dst x =>
  split at hc
  ·rename_i p hp;exact conv_sound ho hp hc e s hr
  ·cases hc
 case makeFunc fn first captured =>
  cases fn<;>simp only at hc
  case func f =>
   split at hc
   ·rename_i l m hl hm;cases hc;exact good_fn ho hl hm e s hr
   ·cases hc
  all_goals cases hc
 case makeMap t r =>
  cases r with
  | none=>cases hc;exact good_mkMap ho s hr
  | some r=>cases hc
 case lookup t x i ok =>
  split at hc
  ·rename_i kt et p q hu hp hq
   split at hc
   ·rename_i kg ks z hk hz;cases hc;exact good_lookup ho hu hk hz hp hq e s hr
   ·cases hc
  ·cases hc
 case mapUpdate t x i y =>
  split at hc
  ·rename_i kt et p q r hu hp hq hr'
   split at hc
   ·rename_i kg ks hk;cases hc;exact good_mapUpdate ho hu hk hp hq hr' e s hr
   ·cases hc
  ·cases hc
 case makeInterface t x =>
  split at hc
  ·rename_i hcc
   simp only [Option.map_eq_some_iff] at hc
   obtain ⟨z,hz,rfl⟩:=hc
   exact good_mkIface ho hcc hz e s hr
  ·cases hc
 case makeSlice t x y =>
  split at hc
  ·rename_i el hu
   split at hc
   ·rename_i sz by_ z p q h1 h2 h3 h4 h5
    split at hc
    ·rename_i hcond;cases hc;exact good_mkSlice ho hu h1 h2 h3 hcond.2 h4 h5 e s hr
    ·cases hc
   ·cases hc
  ·cases hc
 case slice t x lo hi mx =>
  split at hc
  ·rename_i el p lo' hi' mx' hu hp h1 h2 h3
   split at hc
   ·rename_i sz hs
    split at hc
    ·cases hc
    ·rename_i hmh
     split at hc
     ·cases hc
      exact good_slice ho hu hs hp h1 h2 h3 (fun hm=>by
       cases hh:hi'.isSome with
       | true=>rfl
       | false=>exact absurd ⟨hm,by simp [hh]⟩ hmh) e s hr
     ·cases hc
   ·cases hc
  ·rename_i p lo' hi' hu hp h1 h2 h3
   cases hc
   have hmx:mx=none:=by
    rcases compOO_ok h3 with ⟨rfl,_⟩|⟨_,_,_,hq,_⟩
    ·rfl
    ·cases hq
   subst hmx
   exact good_strSlice ho hu hp h1 h2 e s hr
  ·cases hc
 case fieldAddr t x f =>
  split at hc
  ·rename_i fs p hu hp
   split at hc
   ·rename_i g hf
    split at hc
    ·rename_i sz hs
     split at hc
     ·cases hc
     ·rename_i hz;cases hc;exact good_fieldAddr ho hu hf hs hz hp e s hr
    ·cases hc
   ·cases hc
  ·cases hc
 case field t x f =>
  split at hc
  ·rename_i fs p hu hp
   split at hc
   ·rename_i g hf
    split at hc
    ·rename_i ag sz hg hs;cases hc;exact good_field ho hu hf hg hs hp e s hr
    ·cases hc
   ·cases hc
  ·cases hc
 case indexAddr t x i =>
  split at hc
  ·rename_i el p q hu hp hq
   simp only [Option.map_eq_some_iff] at hc
   obtain ⟨sz,hs,rfl⟩:=hc
   exact good_idxSl ho hu hs hp hq e s hr
  ·rename_i n el p q hu hp hq
   simp only [Option.map_eq_some_iff] at hc
   obtain ⟨sz,hs,rfl⟩:=hc
   exact good_idxArr ho hu hs hp hq e s hr
  ·cases hc
 case index t x i =>
  split at hc
  ·rename_i p q hu hp hq;cases hc;exact good_strIndex ho hu hp hq e s hr
  ·rename_i n el p q hu hp hq
   split at hc
   ·rename_i ag sz hg hs;cases hc;exact good_index ho hu hg hs hp hq e s hr
   ·cases hc
  ·cases hc
 case extract x i =>
  simp only [Option.map_eq_some_iff] at hc
  obtain ⟨z,hz,rfl⟩:=hc
  exact good_extract ho hz e s hr
 case call c=>exact call_sound hx ho hc e s hr
 all_goals cases hc
theorem aop_sound (hx:XOK P G) {vl:Bool} (e:ER G w phi im env a.tmps) (s:SR w phi im h) (hr:(aop slot env (compOp P G vl o.op)).run slot h=some (v,h')):Good P o a w phi im v h':=by
 unfold compOp at hr
 cases hc:compOp1 P G vl o.op with
 | none=>rw [hc] at hr;cases hr
 | some ao=>rw [hc] at hr;exact aop1_sound hx hc e s hr
end
end Go.AM
