/- The reference's layouts. -/
import Derived.Test.YtfhijkapcdmdnaaGreatDoorZd
import Derived.Test.YtfhijkapcdmdnaaGreatDoorAmW
namespace Go.Proofs.YtfhijkapcdmdnaaGreatDoor
open Go.AM
set_option maxRecDepth 20000
set_option maxHeartbeats 4000000
set_option linter.unusedSimpArgs false
set_option linter.unusedVariables false
set_option maxHeartbeats 4000000
theorem basicR_erase (i:Nat) (r:TR):basicR i (eraseT r)=basicR i r:=rfl
theorem shapedR_erase (i:Nat) (r:TR):shapedR i (eraseT r)=shapedR i r:=rfl
theorem twice_erase (t:List TR) (i:Nat) (r:TR):twiceS (t.map eraseT) i (eraseT r)=twiceS t i r:=by
 unfold twiceS
 rw [← List.map_take,List.any_map]
 rfl
theorem acc_erase {t:List TR} (h:AccP (t.map eraseT)):AccP t:=by
 have hl:(t.map eraseT).length=t.length:=List.length_map ..
 have get:∀ (i:Nat) (r:TR),t[i]?=some r→(t.map eraseT)[i]?=some (eraseT r):=fun i r hi=>by rw [List.getElem?_map,hi];rfl
 have mem:∀ r ∈ t,eraseT r ∈ t.map eraseT:=fun r hr=>List.mem_map.2 ⟨r,hr,rfl⟩
 refine ⟨by rw [← hl];exact h.lo,by rw [← hl];exact h.hi,fun i r hi hlt=>?_,fun i r hi hge=>?_,fun r hr hk=>?_,fun r hr hd=>?_,?_⟩
 ·rw [← basicR_erase];exact h.basic i _ (get i r hi) hlt
 ·rw [← shapedR_erase,← twice_erase];exact h.row i _ (get i r hi) hge
 ·have:=h.whole _ (mem r hr) hk
  rw [whole_erase] at this;exact this
 ·have:=h.mems _ (mem r hr) hd
  rw [whole_erase,kind_erase,has_erase] at this;exact this
 ·obtain ⟨rho,hr⟩:=h.rank
  refine ⟨rho,fun i w hi d hd=>?_⟩
  have:=hr i _ (get i w hi) d hd
  rw [hl] at this;exact this
theorem rho_bound (rho:Nat→Nat):∀ n,∃ F,∀ i,i<n→rho i<F:=by
 intro n
 induction n with
 | zero=>exact ⟨0,fun i h=>by omega⟩
 | succ n ih =>
  obtain ⟨F,hF⟩:=ih
  refine ⟨max F (rho n+1),fun i hi=>?_⟩
  by_cases e:i=n
  ·subst e;omega
  ·have:=hF i (by omega);omega
theorem tbl_of {rows:List TR} (hcap:∀ w ∈ rows,w.cap = .no) (hsz:∀ w ∈ rows,w.mem.length≤16777216) (ha:AccR rows):∃ rho F,Tbl (tabOf rows) rho F∧(tabOf rows).map eraseT=rows∧(tabOf rows).length=rows.length:=by
 have hp:=acc_imp ha
 have he:=tab_erase hcap hp
 have hacc:AccP (tabOf rows):=acc_erase (by rw [he];exact hp)
 obtain ⟨rho,hr⟩:=hacc.rank
 obtain ⟨F,hF⟩:=rho_bound rho (tabOf rows).length
 refine ⟨rho,F,⟨hacc,hr,hF,fun w hw=>?_⟩,he,tab_len hcap hp⟩
 have:eraseT w ∈ rows:=by rw [← he];exact List.mem_map.2 ⟨w,hw,rfl⟩
 show (eraseT w).mem.length≤16777216
 exact hsz _ this
theorem mems_of (B:Nat):∀ (l:List (List AV)),(∀ r ∈ l,∃ nm ty bits,r=[.str nm,.int .i64 ty,.int .i64 bits]∧nm.length≤B)→∃ ms:List Mem,l=memRows ms∧∀ m ∈ ms,m.1.length≤B:=by
 intro l
 induction l with
 | nil=>intro _;exact ⟨[],rfl,fun m hm=>by cases hm⟩
 | cons r t ih =>
  intro h
  obtain ⟨nm,ty,bits,rfl,hn⟩:=h r List.mem_cons_self
  obtain ⟨ms,rfl,hm⟩:=ih fun q hq=>h q (List.mem_cons_of_mem _ hq)
  exact ⟨(nm,ty,bits) :: ms,rfl,fun m hq=>by
   rcases List.mem_cons.1 hq with rfl|hq
   ·exact hn
   ·exact hm m hq⟩
def TRok (B:Nat) (w:TR):Prop:=w.cap = .no∧w.tag.length≤B∧w.mem.length≤B∧∀ m ∈ w.mem,m.1.length≤B
theorem rows_of (B:Nat):∀ (l:List (List AV)),(∀ r ∈ l,∃ (k e n:Int) (tg:List UInt8) (ms:List (List AV)) (b:Bool),r=[.int .i64 k,.int .i64 e,.int .i64 n,.str tg,.is ms .no,.bool b]∧tg.length≤B∧ms.length≤B∧∀ q ∈ ms,∃ nm ty bits,q=[.str nm,.int .i64 ty,.int .i64 bits]∧nm.length≤B) →
  ∃ rows:List TR,l=rows.map trow∧∀ w ∈ rows,TRok B w:=by
 intro l
 induction l with
 | nil=>intro _;exact ⟨[],rfl,fun m hm=>by cases hm⟩
 | cons r t ih =>
  intro h
  obtain ⟨k,e,n,tg,ms,b,rfl,h1,h2,h3⟩:=h r List.mem_cons_self
  obtain ⟨rows,rfl,hr⟩:=ih fun q hq=>h q (List.mem_cons_of_mem _ hq)
  obtain ⟨l,rfl,hl⟩:=mems_of B ms h3
  rw [memRows_len] at h2
  exact ⟨⟨k,e,n,tg,l,b,.no⟩ :: rows,rfl,fun w hq=>by
   rcases List.mem_cons.1 hq with rfl|hq
   ·exact ⟨rfl,h1,h2,hl⟩
   ·exact hr w hq⟩
abbrev rowSh:Sh:= .st [(.int .i64),(.int .i64),(.int .i64),.str,(.sl (.st [.str,(.int .i64),(.int .i64)])),.bool]
theorem arg_rows {B:Nat} {x:AV} (h:(Sh.sl rowSh).Arg B x):∃ rows:List TR,x = .is (rows.map trow) .no∧rows.length≤B∧∀ w ∈ rows,TRok B w:=by
 simp only [Sh.Arg,Sh.Row,RowL] at h
 obtain ⟨l,hx,hl,hr⟩:=h
 simp only [List.cons.injEq,and_true] at hx
 subst hx
 obtain ⟨rows,rfl,hw⟩:=rows_of B l fun q hq=>by
  obtain ⟨_,_,rfl,⟨k,_,rfl⟩,_,_,rfl,⟨e,_,rfl⟩,_,_,rfl,⟨n,_,rfl⟩,_,_,rfl,⟨tg,ht,rfl⟩,_,_,rfl,⟨ms,rfl,hml,hmr⟩,_,_,rfl,⟨b,rfl⟩,rfl⟩:=hr q hq
  refine ⟨k,e,n,tg,ms,b,rfl,ht,hml,fun z hz=>?_⟩
  obtain ⟨_,_,rfl,⟨nm,hn,rfl⟩,_,_,rfl,⟨ty,_,rfl⟩,_,_,rfl,⟨bits,_,rfl⟩,rfl⟩:=hmr z hz
  exact ⟨nm,ty,bits,rfl,hn⟩
 rw [List.length_map] at hl
 exact ⟨rows,rfl,hl,hw⟩
theorem arg_int {B:Nat} {x:AV} (h:(Sh.int .i64).Arg B x):∃ n:Int,x = .int .i64 n∧(Lit.int .i64 n).wf=true:=by
 simp only [Sh.Arg,Sh.Row] at h
 obtain ⟨n,hn,hx⟩:=h
 simp only [List.cons.injEq,and_true] at hx
 exact ⟨n,hx,hn⟩
theorem trok_sz {rows:List TR} (h:∀ w ∈ rows,TRok 1048576 w):(∀ w ∈ rows,w.cap = .no)∧∀ w ∈ rows,w.tag.length≤1048576∧w.mem.length≤16777216∧∀ m ∈ w.mem,m.1.length≤1048576 :=
 ⟨fun w hw=>(h w hw).1,fun w hw=>⟨(h w hw).2.1,by have:=(h w hw).2.2.1;omega,(h w hw).2.2.2⟩⟩
theorem layF_erase (t:List TR):∀ (F:Nat),layF (t.map eraseT) F=layF t F:=by
 intro F
 induction F with
 | zero=>rfl
 | succ F ih =>
  funext id
  unfold layF
  rw [getT_erase,ih]
  cases getT t id<;>rfl
theorem bigF_erase (t:List TR):∀ (F:Nat),bigF (t.map eraseT) F=bigF t F:=by
 intro F
 induction F with
 | zero=>rfl
 | succ F ih =>
  funext id
  unfold bigF
  rw [getT_erase,ih,layF_erase]
  cases getT t id<;>rfl
theorem tbl_erase {t:List TR} {rho:Nat→Nat} {F:Nat} (hx:Tbl t rho F) (ha:AccP (t.map eraseT)):Tbl (t.map eraseT) rho F:=by
 have hl:(t.map eraseT).length=t.length:=List.length_map ..
 refine ⟨ha,fun i r hi d hd=>?_,fun i hi=>hx.hF i (by omega),fun w hw=>?_⟩
 ·rw [List.getElem?_map] at hi
  cases hg:t[i]? with
  | none=>rw [hg] at hi;cases hi
  | some w =>
   rw [hg] at hi
   simp only [Option.map_some,Option.some.injEq] at hi
   subst hi
   rw [hl]
   exact hx.rank i w hg d hd
 ·obtain ⟨w',hw',rfl⟩:=List.mem_map.1 hw
  exact hx.sz w' hw'
theorem rwhole_eq {t:List TR} (ha:AccP t) (id:Int):rwholeS t id=wholeS t id:=by
 unfold rwholeS wholeS
 cases hg:getT t id with
 | none=>rfl
 | some r =>
  obtain ⟨_,gi⟩:=getT_some hg
  obtain ⟨k1,k16,klen,_,_⟩:=acc_kind ha gi
  dsimp only
  unfold rwholeR wholeR
  by_cases k14:r.kind=14
  ·have:=klen k14
   unfold longS at this
   simp only [decide_eq_true_eq] at this
   rw [if_pos k14,if_neg (by omega),if_pos k14]
   simp only [decide_eq_decide]
   omega
  ·rw [if_neg k14]
   by_cases k15:r.kind=15∨r.kind=16
   ·rw [if_pos k15,if_neg (by omega),if_neg k14,if_pos k15]
   ·rw [if_neg k15]
    by_cases k0:r.kind=0∨r.kind=1
    ·rw [if_pos k0]
     simp only [decide_eq_false_iff_not]
     omega
    ·rw [if_neg k0,if_neg k14,if_neg k15]
     simp only [decide_eq_true_eq]
     omega
theorem dep_whole {t:List TR} (ha:AccP t) {i:Nat} {r:TR} (hi:t[i]?=some r) (hw:wholeS t i=true):∀ d ∈ deps r,wholeS t d=true:=by
 have hmem:=List.mem_of_getElem? hi
 obtain ⟨k1,k16,klen,kdone,kmem⟩:=acc_kind ha hi
 intro d hd
 have hg:getT t i=some r:=by unfold getT;rw [if_pos (by omega)];exact hi
 unfold wholeS at hw
 rw [hg] at hw
 dsimp only at hw
 by_cases k14:r.kind=14
 ·have hd0:r.done=false:=by
   cases hq:r.done with
   | false=>rfl
   | true=>have:=kdone hq;omega
  unfold deps at hd
  rw [if_pos k14,kmem hd0] at hd
  simp only [List.map_nil,List.append_nil,List.mem_singleton] at hd
  subst hd
  exact ha.whole r hmem k14
 ·unfold deps at hd
  rw [if_neg k14,List.nil_append] at hd
  obtain ⟨m,hm,rfl⟩:=List.mem_map.1 hd
  cases hq:r.done with
  | false=>rw [kmem hq] at hm;cases hm
  | true=>exact (mem_ok (ha:=ha) hmem hq).2 m hm
def passW (t:List TR):Nat→Nat→List Bool→Bool→List Bool × Bool
 | 0,_,ok,a=>(ok,a)
 | n+1,i,ok,a=>match t[i]? with
  | none=>(ok,a)
  | some r=>if ok.getD i false=false∧wholeS t i=true∧(deps r).all (okD ok)=true then passW t n (i+1) (ok.set i true) true else passW t n (i+1) ok a
def allW (t:List TR):Nat→List Bool→Option (List Bool)
 | 0,_=>none
 | f+1,ok=>match passW t t.length 0 ok false with
  | (ok',true)=>allW t f ok'
  | (ok',false)=>some ok'
theorem passW_count {t:List TR}:∀ (n i:Nat) (ok:List Bool) (a:Bool),ok.length=t.length →
  (passW t n i ok a).1.length=t.length∧(passW t n i ok a).1.count false≤ok.count false∧((passW t n i ok a).2=true→a=true∨(passW t n i ok a).1.count false<ok.count false):=by
 intro n
 induction n with
 | zero=>intro i ok a h;exact ⟨h,Nat.le_refl _,fun q => .inl q⟩
 | succ n ih =>
  intro i ok a h
  unfold passW
  cases hi:t[i]? with
  | none=>exact ⟨h,Nat.le_refl _,fun q => .inl q⟩
  | some r =>
   dsimp only
   split
   ·rename_i q
    have hil:i<ok.length:=by have:=(List.getElem?_eq_some_iff.1 hi).1;omega
    have hf:ok[i]=false:=by
     have:=q.1
     rw [List.getD_eq_getElem?_getD,List.getElem?_eq_getElem hil] at this
     simpa using this
    obtain ⟨h1,h2,h3⟩:=ih (i+1) (ok.set i true) true (by rw [List.length_set];exact h)
    have hc:(ok.set i true).count false+1=ok.count false:=by
     have hp:0<ok.count false:=List.count_pos_iff.2 (hf ▸ List.getElem_mem hil)
     rw [List.count_set hil,hf]
     simp
     omega
    exact ⟨h1,by omega,fun _ => .inr (by omega)⟩
   ·exact ih (i+1) ok a h
theorem allW_ends {t:List TR}:∀ (f:Nat) (ok:List Bool),ok.length=t.length→ok.count false<f→∃ ok',allW t f ok=some ok':=by
 intro f
 induction f with
 | zero=>intro ok _ h;omega
 | succ f ih =>
  intro ok hl h
  obtain ⟨h1,h2,h3⟩:=passW_count (t:=t) t.length 0 ok false hl
  unfold allW
  cases hq:passW t t.length 0 ok false with
  | mk x b =>
   rw [hq] at h1 h2 h3
   cases b with
   | false=>exact ⟨x,rfl⟩
   | true =>
    rcases h3 rfl with e|e
    ·cases e
    ·exact ih x h1 (by dsimp only at e;omega)
theorem passW_true {t:List TR}:∀ (n i:Nat) (ok:List Bool),(passW t n i ok true).2=true:=by
 intro n
 induction n with
 | zero=>intro i ok;rfl
 | succ n ih =>
  intro i ok
  unfold passW
  cases t[i]? with
  | none=>rfl
  | some r =>
   dsimp only
   split
   ·exact ih ..
   ·exact ih ..
theorem passW_still {t:List TR}:∀ (n i:Nat) (ok ok':List Bool),passW t n i ok false=(ok',false)→ok'=ok∧∀ (j:Nat) r,i≤j→j<i+n→t[j]?=some r→¬ (ok.getD j false=false∧wholeS t j=true∧(deps r).all (okD ok)=true):=by
 intro n
 induction n with
 | zero =>
  intro i ok ok' h
  unfold passW at h
  cases h
  exact ⟨rfl,fun j r h1 h2=>by omega⟩
 | succ n ih =>
  intro i ok ok' h
  unfold passW at h
  cases hi:t[i]? with
  | none =>
   rw [hi] at h
   cases h
   refine ⟨rfl,fun j r h1 h2 h3=>?_⟩
   have:=(List.getElem?_eq_some_iff.1 h3).1
   have:=List.getElem?_eq_none_iff.1 hi
   omega
  | some w =>
   rw [hi] at h
   dsimp only at h
   split at h
   ·have:=passW_true (t:=t) n (i+1) (ok.set i true)
    rw [h] at this
    cases this
   ·rename_i q
    obtain ⟨e1,e2⟩:=ih (i+1) ok ok' h
    refine ⟨e1,fun j r h1 h2 h3=>?_⟩
    by_cases c:j=i
    ·subst c
     rw [hi] at h3
     cases h3
     exact q
    ·exact e2 j r (by omega) (by omega) h3
theorem allW_all {t:List TR} {rho:Nat→Nat} (ha:AccP t) (hr:Ranked t rho):∀ (f:Nat) (ok ok':List Bool),ok.length=t.length→allW t f ok=some ok'→ok'.length=t.length∧∀ (i:Nat),wholeS t i=true→ok'[i]?=some true:=by
 intro f
 induction f with
 | zero=>intro ok ok' _ h;cases h
 | succ f ih =>
  intro ok ok' hl h
  obtain ⟨h1,_,_⟩:=passW_count (t:=t) t.length 0 ok false hl
  unfold allW at h
  cases hq:passW t t.length 0 ok false with
  | mk x b =>
   rw [hq] at h h1
   cases b with
   | true=>exact ih x ok' h1 h
   | false =>
    simp only [Option.some.injEq] at h
    subst h
    obtain ⟨e1,e2⟩:=passW_still t.length 0 ok x hq
    subst e1
    refine ⟨h1,?_⟩
    have key:∀ (n:Nat) (i:Nat),rho i<n→wholeS t i=true→x[i]?=some true:=by
     intro n
     induction n with
     | zero=>intro i h;omega
     | succ n ih2 =>
      intro i hn hw
      cases hg:getT t i with
      | none=>unfold wholeS at hw;rw [hg] at hw;cases hw
      | some r =>
       have gi:=(getT_some hg).2
       rw [Int.toNat_natCast] at gi
       have li:=(List.getElem?_eq_some_iff.1 gi).1
       have hno:=e2 i r (by omega) (by omega) gi
       have hdep:(deps r).all (okD x)=true:=by
        rw [List.all_eq_true]
        intro d hd
        obtain ⟨d0,d1,d2⟩:=hr i r gi d hd
        have hdw:=dep_whole ha gi hw d hd
        have:=ih2 d.toNat (by omega) (by rw [Int.toNat_of_nonneg d0];exact hdw)
        unfold okD
        rw [List.getD_eq_getElem?_getD,this]
        rfl
       have hne:¬ x.getD i false=false:=fun c=>hno ⟨c,hw,hdep⟩
       rw [List.getD_eq_getElem?_getD] at hne
       cases hxi:x[i]? with
       | none=>rw [hxi] at hne;exact absurd rfl hne
       | some b =>
        rw [hxi] at hne
        cases b with
        | true=>rfl
        | false=>exact absurd rfl hne
    exact fun i hw=>key (rho i+1) i (by omega) hw
structure RowV where
 sz:Int
 al:Int
 L:List PlT
 cap:Cap
 fine:Bool
def RowV.row (v:RowV):List AV:=[.int .i64 v.sz,.int .i64 v.al,.is (plRows v.L) v.cap,.bool v.fine]
structure RowOKV (t:List TR) (F:Nat) (id:Int) (v:RowV):Prop where
 fine:v.fine=!bigF t F id
 al:v.al=1∨v.al=2∨v.al=4
 sz:0≤v.sz∧v.sz≤16384
 eq:bigF t F id=false→v.sz=(layF t F id).size∧v.al=(layF t F id).align∧v.L=(layF t F id).pl
theorem flat4_drop:∀ (ys:List (List AV)) (i:Nat),(∀ r ∈ ys,r.length=4)→ys.flatten.drop (i*4)=(ys.drop i).flatten:=by
 intro ys
 induction ys with
 | nil=>intro i _;simp
 | cons r t ih =>
  intro i h
  cases i with
  | zero=>simp
  | succ i =>
   have h4:=h r (by simp)
   rw [List.flatten_cons,show (i+1)*4=r.length+i*4 by omega,← List.drop_drop,List.drop_left,ih i (fun q hq=>h q (by simp [hq])),List.drop_succ_cons]
theorem flat4_len:∀ (ys:List (List AV)),(∀ r ∈ ys,r.length=4)→ys.flatten.length=ys.length*4:=by
 intro ys
 induction ys with
 | nil=>intro _;rfl
 | cons r t ih =>
  intro h
  rw [List.flatten_cons,List.length_append,ih (fun q hq=>h q (by simp [hq])),h r (by simp),List.length_cons]
  omega
theorem flat4_row {ys:List (List AV)} {i:Nat} {r:List AV} (h:ys[i]?=some r) (h4:∀ r ∈ ys,r.length=4):(ys.flatten.drop (i*4)).take 4=r:=by
 obtain ⟨h1,h2⟩:=List.getElem?_eq_some_iff.1 h
 rw [flat4_drop _ _ h4,List.drop_eq_getElem_cons h1,h2,List.flatten_cons]
 have:r.length=4:=h4 r (List.mem_of_getElem? h)
 rw [← this,List.take_left]
theorem flat4_set:∀ (ys:List (List AV)) (i:Nat) (r:List AV),(∀ r ∈ ys,r.length=4)→i<ys.length→ys.flatten.take (i*4) ++ (r ++ ys.flatten.drop (i*4+4))=(ys.set i r).flatten:=by
 intro ys
 induction ys with
 | nil=>intro i r _ h;simp at h
 | cons y t ih =>
  intro i r h hi
  have h4:=h y (by simp)
  cases i with
  | zero =>
   rw [List.set_cons_zero,List.flatten_cons,List.flatten_cons,Nat.zero_mul,List.take_zero,List.nil_append,Nat.zero_add,← h4,List.drop_left]
  | succ i =>
   rw [List.set_cons_succ,List.flatten_cons,List.flatten_cons,← ih i r (fun q hq=>h q (by simp [hq])) (by simp at hi;omega),show (i+1)*4=y.length+i*4 by omega,List.take_length_add_append,show y.length+i*4+4=y.length+(i*4+4) by omega,List.drop_length_add_append,List.append_assoc]
theorem q13_nil (G:Heap) (A:Nat) (MR:List (List AV)) (c0:Cap) (x1 x4 x8 x9:AV) (pos i ty d:Int) (n:Nat) (nm bits:AV) (E:List (Nat × AV)) (s0 s1 s3:AV) (hA:G[A]?=some (.cells [s0,s1,.is [] .nil,s3])) (q0:isSc s0=true) (q1:isSc s1=true) (q3:isSc s3=true) (hi:i=n) (hM:MR[n]?=some [nm,.int .i64 ty,bits]) (hd:pos.tdiv 8=d) (wd:IntKind.i64.wrap d=d) :
  Brun tab 141 (.region true f137r13 [0,1,4,5,6,7,8,9] 1) (ofL ((0,.is MR c0) :: (1,x1) :: (4,x4) :: (5,.mp A 0) :: (6,.int .i64 pos) :: (7,.int .i64 i) :: (8,x8) :: (9,x9) :: E)) G =
  some (.normal,ofL [(0,.is MR c0),(1,x1),(4,x4),(5,.mp A 0),(6,.int .i64 pos),(7,.int .i64 i),(8,x8),(9,x9)],List.set G A (.cells [s0,s1,.is [[.int .i64 i,.int .i64 ty,.int .i64 d,.int .i64 0,.int .i64 0]] (.tok G.length 5),s3]) ++ [.tok]):=by
 have la:=(List.getElem?_eq_some_iff.1 hA).1
 have g2:∀ x,(G ++ x)[A]?=some (.cells [s0,s1,.is [] .nil,s3]):=fun x=>rapp hA x
 have g2':∀ x (hh:A<(G ++ x).length),(G ++ x)[A]'hh = .cells [s0,s1,.is [] .nil,s3]:=fun x hh=>(List.getElem?_eq_some_iff.1 (g2 x)).2
 have s1':∀ x b,(G ++ x).set A b=G.set A b ++ x:=fun x b=>by rw [List.set_append_left _ _ la]
 have hcl:¬ G.length=A:=by omega
 have hlc:¬ A=G.length:=by omega
 have hM':∀ hh,MR[n]'hh=_:=fun hh=>(List.getElem?_eq_some_iff.1 hM).2
 have lM:=(List.getElem?_eq_some_iff.1 hM).1
 subst hi
 refine Brun_told ?_
 clear hA la
 simp [*,f137r13,asteps,astep,stepRun,aop,HC.run,HC.rds,HC.wrs,HC.ofOpt,Blk.isFree,wanted,put,cellsOf,isSc,splice,cget,slen,ssz,scells,roomy,rowsz,Cap.tight,drawOK,freeOf,Rec.indep,disj,apart,AOper.looks,AOp.tmps,AO.tmps,pTmps,oTmps,Nat.testBit,ap4,ofL,isPure,tab,fillp,imm,imm.immL,strip,strip.stripL,chunk,Nat.add_assoc,abin,List.replicate]
theorem q13_tok (G:Heap) (A:Nat) (K:Nat) (D:List (List AV)) (MR:List (List AV)) (c0:Cap) (x1 x4 x8 x9:AV) (pos i ty d:Int) (n:Nat) (nm bits:AV) (E:List (Nat × AV)) (s0 s1 s3:AV) (hA:G[A]?=some (.cells [s0,s1,.is D (.tok K 5),s3])) (hK:G[K]?=some .tok) (hD:D.length≤100) (q0:isSc s0=true) (q1:isSc s1=true) (q3:isSc s3=true) (hi:i=n) (hM:MR[n]?=some [nm,.int .i64 ty,bits]) (hd:pos.tdiv 8=d) (wd:IntKind.i64.wrap d=d) :
  Brun tab 141 (.region true f137r13 [0,1,4,5,6,7,8,9] 1) (ofL ((0,.is MR c0) :: (1,x1) :: (4,x4) :: (5,.mp A 0) :: (6,.int .i64 pos) :: (7,.int .i64 i) :: (8,x8) :: (9,x9) :: E)) G =
  some (.normal,ofL [(0,.is MR c0),(1,x1),(4,x4),(5,.mp A 0),(6,.int .i64 pos),(7,.int .i64 i),(8,x8),(9,x9)],List.set (List.set G K .dead) A (.cells [s0,s1,.is (D ++ [[.int .i64 i,.int .i64 ty,.int .i64 d,.int .i64 0,.int .i64 0]]) (.tok G.length 5),s3]) ++ [.tok]):=by
 have la:=(List.getElem?_eq_some_iff.1 hA).1
 have g2:∀ x,(G ++ x)[A]?=some (.cells [s0,s1,.is D (.tok K 5),s3]):=fun x=>rapp hA x
 have g2':∀ x (hh:A<(G ++ x).length),(G ++ x)[A]'hh = .cells [s0,s1,.is D (.tok K 5),s3]:=fun x hh=>(List.getElem?_eq_some_iff.1 (g2 x)).2
 have s1':∀ x b,(G ++ x).set A b=G.set A b ++ x:=fun x b=>by rw [List.set_append_left _ _ la]
 have hcl:¬ G.length=A:=by omega
 have hlc:¬ A=G.length:=by omega
 have hM':∀ hh,MR[n]'hh=_:=fun hh=>(List.getElem?_eq_some_iff.1 hM).2
 have lM:=(List.getElem?_eq_some_iff.1 hM).1
 subst hi
 have lk:=(List.getElem?_eq_some_iff.1 hK).1
 have hck:¬ A=K:=fun e=>by rw [← e,hA] at hK;cases hK
 have hkc:¬ K=A:=fun e=>hck e.symm
 have hkl:¬ K=G.length:=by omega
 have hlk:¬ G.length=K:=by omega
 have g3:∀ x,(G ++ x)[K]?=some .tok:=fun x=>rapp hK x
 have g3':∀ x (hh:K<(G ++ x).length),(G ++ x)[K]'hh = .tok:=fun x hh=>(List.getElem?_eq_some_iff.1 (g3 x)).2
 have s2:∀ x b,(G ++ x).set K b=G.set K b ++ x:=fun x b=>by rw [List.set_append_left _ _ lk]
 have s3':∀ x,(G.set K .dead ++ x)[A]?=some (.cells [s0,s1,.is D (.tok K 5),s3]):=fun x=>by rw [List.getElem?_append_left (by simpa using la),List.getElem?_set_ne hkc];exact hA
 have s4:∀ x b,(G.set K .dead ++ x).set A b=(G.set K .dead).set A b ++ x:=fun x b=>by rw [List.set_append_left _ _ (by simpa using la)]
 have s5:∀ x (hh:A<(G.set K .dead ++ x).length),(G.set K .dead ++ x)[A]'hh = .cells [s0,s1,.is D (.tok K 5),s3]:=fun x hh=>(List.getElem?_eq_some_iff.1 (s3' x)).2
 have hr6:(D.length+1)*40≤140737488355328:=by omega
 refine Brun_told ?_
 clear hA la hK lk
 simp [*,f137r13,asteps,astep,stepRun,aop,HC.run,HC.rds,HC.wrs,HC.ofOpt,Blk.isFree,wanted,put,cellsOf,isSc,splice,cget,slen,ssz,scells,roomy,rowsz,Cap.tight,drawOK,freeOf,Rec.indep,disj,apart,AOper.looks,AOp.tmps,AO.tmps,pTmps,oTmps,Nat.testBit,ap4,ofL,isPure,tab,fillp,imm,imm.immL,strip,strip.stripL,chunk,Nat.add_assoc,abin,List.replicate]
theorem q20_nil (G:Heap) (A:Nat) (MR:List (List AV)) (c0:Cap) (x1 x4:AV) (N8:Nat) (sz:Int) (t1 t2 t3:AV) (u w:Int) (pos i ty d r o:Int) (n:Nat) (nm bits:AV) (E:List (Nat × AV)) (s0 s1 s3:AV) (hA:G[A]?=some (.cells [s0,s1,.is [] .nil,s3])) (q0:isSc s0=true) (q1:isSc s1=true) (q3:isSc s3=true) (hN:G[N8]?=some (.cells [.int .i64 sz,t1,t2,t3])) (hi:i=n) (hM:MR[n]?=some [nm,.int .i64 ty,bits]) (hu:u≠0) (hd:pos.tdiv u=d) (hr:pos.tmod u=r) (wd:IntKind.i64.wrap d=d) (wo:IntKind.i64.wrap (d*sz)=o) :
  Brun tab 141 (.region true f137r20 [0,1,4,5,6,7,8,10] 1) (ofL ((0,.is MR c0) :: (1,x1) :: (4,x4) :: (5,.mp A 0) :: (6,.int .i64 pos) :: (7,.int .i64 i) :: (8,.mp N8 0) :: (9,.int .i64 u) :: (10,.int .i64 w) :: E)) G =
  some (.normal,ofL [(0,.is MR c0),(1,x1),(4,x4),(5,.mp A 0),(6,.int .i64 pos),(7,.int .i64 i),(8,.mp N8 0),(10,.int .i64 w)],List.set G A (.cells [s0,s1,.is [[.int .i64 i,.int .i64 ty,.int .i64 o,.int .i64 r,.int .i64 w]] (.tok G.length 5),s3]) ++ [.tok]):=by
 have la:=(List.getElem?_eq_some_iff.1 hA).1
 have g2:∀ x,(G ++ x)[A]?=some (.cells [s0,s1,.is [] .nil,s3]):=fun x=>rapp hA x
 have g2':∀ x (hh:A<(G ++ x).length),(G ++ x)[A]'hh = .cells [s0,s1,.is [] .nil,s3]:=fun x hh=>(List.getElem?_eq_some_iff.1 (g2 x)).2
 have s1':∀ x b,(G ++ x).set A b=G.set A b ++ x:=fun x b=>by rw [List.set_append_left _ _ la]
 have hcl:¬ G.length=A:=by omega
 have hlc:¬ A=G.length:=by omega
 have hM':∀ hh,MR[n]'hh=_:=fun hh=>(List.getElem?_eq_some_iff.1 hM).2
 have lM:=(List.getElem?_eq_some_iff.1 hM).1
 subst hi
 have l8:=(List.getElem?_eq_some_iff.1 hN).1
 have g8:∀ x,(G ++ x)[N8]?=_:=fun x=>rapp hN x
 have g8':∀ x (hh:N8<(G ++ x).length),(G ++ x)[N8]'hh=_:=fun x hh=>(List.getElem?_eq_some_iff.1 (g8 x)).2
 have h8l:¬ N8=G.length:=by omega
 have hl8:¬ G.length=N8:=by omega
 refine Brun_told ?_
 clear hA la hN l8
 simp [*,f137r20,asteps,astep,stepRun,aop,HC.run,HC.rds,HC.wrs,HC.ofOpt,Blk.isFree,wanted,put,cellsOf,isSc,splice,cget,slen,ssz,scells,roomy,rowsz,Cap.tight,drawOK,freeOf,Rec.indep,disj,apart,AOper.looks,AOp.tmps,AO.tmps,pTmps,oTmps,Nat.testBit,ap4,ofL,isPure,tab,fillp,imm,imm.immL,strip,strip.stripL,chunk,Nat.add_assoc,abin,List.replicate]
theorem q20_tok (G:Heap) (A:Nat) (K:Nat) (D:List (List AV)) (MR:List (List AV)) (c0:Cap) (x1 x4:AV) (N8:Nat) (sz:Int) (t1 t2 t3:AV) (u w:Int) (pos i ty d r o:Int) (n:Nat) (nm bits:AV) (E:List (Nat × AV)) (s0 s1 s3:AV) (hA:G[A]?=some (.cells [s0,s1,.is D (.tok K 5),s3])) (hK:G[K]?=some .tok) (hD:D.length≤100) (q0:isSc s0=true) (q1:isSc s1=true) (q3:isSc s3=true) (hN:G[N8]?=some (.cells [.int .i64 sz,t1,t2,t3])) (hi:i=n) (hM:MR[n]?=some [nm,.int .i64 ty,bits]) (hu:u≠0) (hd:pos.tdiv u=d) (hr:pos.tmod u=r) (wd:IntKind.i64.wrap d=d) (wo:IntKind.i64.wrap (d*sz)=o) :
  Brun tab 141 (.region true f137r20 [0,1,4,5,6,7,8,10] 1) (ofL ((0,.is MR c0) :: (1,x1) :: (4,x4) :: (5,.mp A 0) :: (6,.int .i64 pos) :: (7,.int .i64 i) :: (8,.mp N8 0) :: (9,.int .i64 u) :: (10,.int .i64 w) :: E)) G =
  some (.normal,ofL [(0,.is MR c0),(1,x1),(4,x4),(5,.mp A 0),(6,.int .i64 pos),(7,.int .i64 i),(8,.mp N8 0),(10,.int .i64 w)],List.set (List.set G K .dead) A (.cells [s0,s1,.is (D ++ [[.int .i64 i,.int .i64 ty,.int .i64 o,.int .i64 r,.int .i64 w]]) (.tok G.length 5),s3]) ++ [.tok]):=by
 have la:=(List.getElem?_eq_some_iff.1 hA).1
 have g2:∀ x,(G ++ x)[A]?=some (.cells [s0,s1,.is D (.tok K 5),s3]):=fun x=>rapp hA x
 have g2':∀ x (hh:A<(G ++ x).length),(G ++ x)[A]'hh = .cells [s0,s1,.is D (.tok K 5),s3]:=fun x hh=>(List.getElem?_eq_some_iff.1 (g2 x)).2
 have s1':∀ x b,(G ++ x).set A b=G.set A b ++ x:=fun x b=>by rw [List.set_append_left _ _ la]
 have hcl:¬ G.length=A:=by omega
 have hlc:¬ A=G.length:=by omega
 have hM':∀ hh,MR[n]'hh=_:=fun hh=>(List.getElem?_eq_some_iff.1 hM).2
 have lM:=(List.getElem?_eq_some_iff.1 hM).1
 subst hi
 have l8:=(List.getElem?_eq_some_iff.1 hN).1
 have g8:∀ x,(G ++ x)[N8]?=_:=fun x=>rapp hN x
 have g8':∀ x (hh:N8<(G ++ x).length),(G ++ x)[N8]'hh=_:=fun x hh=>(List.getElem?_eq_some_iff.1 (g8 x)).2
 have h8l:¬ N8=G.length:=by omega
 have hl8:¬ G.length=N8:=by omega
 have lk:=(List.getElem?_eq_some_iff.1 hK).1
 have hck:¬ A=K:=fun e=>by rw [← e,hA] at hK;cases hK
 have hkc:¬ K=A:=fun e=>hck e.symm
 have hkl:¬ K=G.length:=by omega
 have hlk:¬ G.length=K:=by omega
 have g3:∀ x,(G ++ x)[K]?=some .tok:=fun x=>rapp hK x
 have g3':∀ x (hh:K<(G ++ x).length),(G ++ x)[K]'hh = .tok:=fun x hh=>(List.getElem?_eq_some_iff.1 (g3 x)).2
 have s2:∀ x b,(G ++ x).set K b=G.set K b ++ x:=fun x b=>by rw [List.set_append_left _ _ lk]
 have s3':∀ x,(G.set K .dead ++ x)[A]?=some (.cells [s0,s1,.is D (.tok K 5),s3]):=fun x=>by rw [List.getElem?_append_left (by simpa using la),List.getElem?_set_ne hkc];exact hA
 have s4:∀ x b,(G.set K .dead ++ x).set A b=(G.set K .dead).set A b ++ x:=fun x b=>by rw [List.set_append_left _ _ (by simpa using la)]
 have s5:∀ x (hh:A<(G.set K .dead ++ x).length),(G.set K .dead ++ x)[A]'hh = .cells [s0,s1,.is D (.tok K 5),s3]:=fun x hh=>(List.getElem?_eq_some_iff.1 (s3' x)).2
 have hr6:(D.length+1)*40≤140737488355328:=by omega
 refine Brun_told ?_
 clear hA la hK lk hN l8
 simp [*,f137r20,asteps,astep,stepRun,aop,HC.run,HC.rds,HC.wrs,HC.ofOpt,Blk.isFree,wanted,put,cellsOf,isSc,splice,cget,slen,ssz,scells,roomy,rowsz,Cap.tight,drawOK,freeOf,Rec.indep,disj,apart,AOper.looks,AOp.tmps,AO.tmps,pTmps,oTmps,Nat.testBit,ap4,ofL,isPure,tab,fillp,imm,imm.immL,strip,strip.stripL,chunk,Nat.add_assoc,abin,List.replicate]
theorem q8_nil (G:Heap) (A:Nat) (MR:List (List AV)) (c0:Cap) (x1 x4 x7:AV) (w i ty b:Int) (n:Nat) (nm bits:AV) (E:List (Nat × AV)) (s0 s1 s3:AV) (hA:G[A]?=some (.cells [s0,s1,.is [] .nil,s3])) (q0:isSc s0=true) (q1:isSc s1=true) (q3:isSc s3=true) (hi:i=n) (hM:MR[n]?=some [nm,.int .i64 ty,bits]) (hb:(if (0:Int)<w then w else 0)=b) (hb2:(if w≤0 then (0:Int) else w)=b) :
  Brun tab 90 (.region true f138r8 [0,1,4,5,6,7,8] 1) (ofL ((0,.is MR c0) :: (1,x1) :: (4,x4) :: (5,.mp A 0) :: (6,.int .i64 i) :: (7,x7) :: (8,.int .i64 w) :: E)) G =
  some (.normal,ofL [(0,.is MR c0),(1,x1),(4,x4),(5,.mp A 0),(6,.int .i64 i),(7,x7),(8,.int .i64 w)],List.set G A (.cells [s0,s1,.is [[.int .i64 i,.int .i64 ty,.int .i64 0,.int .i64 0,.int .i64 b]] (.tok G.length 5),s3]) ++ [.tok]):=by
 have la:=(List.getElem?_eq_some_iff.1 hA).1
 have g2:∀ x,(G ++ x)[A]?=some (.cells [s0,s1,.is [] .nil,s3]):=fun x=>rapp hA x
 have g2':∀ x (hh:A<(G ++ x).length),(G ++ x)[A]'hh = .cells [s0,s1,.is [] .nil,s3]:=fun x hh=>(List.getElem?_eq_some_iff.1 (g2 x)).2
 have s1':∀ x b,(G ++ x).set A b=G.set A b ++ x:=fun x b=>by rw [List.set_append_left _ _ la]
 have hcl:¬ G.length=A:=by omega
 have hlc:¬ A=G.length:=by omega
 have hM':∀ hh,MR[n]'hh=_:=fun hh=>(List.getElem?_eq_some_iff.1 hM).2
 have lM:=(List.getElem?_eq_some_iff.1 hM).1
 subst hi
 refine Brun_told ?_
 clear hA la
 simp [*,f138r8,asteps,astep,stepRun,aop,HC.run,HC.rds,HC.wrs,HC.ofOpt,Blk.isFree,wanted,put,cellsOf,isSc,splice,cget,slen,ssz,scells,roomy,rowsz,Cap.tight,drawOK,freeOf,Rec.indep,disj,apart,AOper.looks,AOp.tmps,AO.tmps,pTmps,oTmps,Nat.testBit,ap4,ofL,isPure,tab,fillp,imm,imm.immL,strip,strip.stripL,chunk,Nat.add_assoc,abin,List.replicate]
theorem q8_tok (G:Heap) (A:Nat) (K:Nat) (D:List (List AV)) (MR:List (List AV)) (c0:Cap) (x1 x4 x7:AV) (w i ty b:Int) (n:Nat) (nm bits:AV) (E:List (Nat × AV)) (s0 s1 s3:AV) (hA:G[A]?=some (.cells [s0,s1,.is D (.tok K 5),s3])) (hK:G[K]?=some .tok) (hD:D.length≤100) (q0:isSc s0=true) (q1:isSc s1=true) (q3:isSc s3=true) (hi:i=n) (hM:MR[n]?=some [nm,.int .i64 ty,bits]) (hb:(if (0:Int)<w then w else 0)=b) (hb2:(if w≤0 then (0:Int) else w)=b) :
  Brun tab 90 (.region true f138r8 [0,1,4,5,6,7,8] 1) (ofL ((0,.is MR c0) :: (1,x1) :: (4,x4) :: (5,.mp A 0) :: (6,.int .i64 i) :: (7,x7) :: (8,.int .i64 w) :: E)) G =
  some (.normal,ofL [(0,.is MR c0),(1,x1),(4,x4),(5,.mp A 0),(6,.int .i64 i),(7,x7),(8,.int .i64 w)],List.set (List.set G K .dead) A (.cells [s0,s1,.is (D ++ [[.int .i64 i,.int .i64 ty,.int .i64 0,.int .i64 0,.int .i64 b]]) (.tok G.length 5),s3]) ++ [.tok]):=by
 have la:=(List.getElem?_eq_some_iff.1 hA).1
 have g2:∀ x,(G ++ x)[A]?=some (.cells [s0,s1,.is D (.tok K 5),s3]):=fun x=>rapp hA x
 have g2':∀ x (hh:A<(G ++ x).length),(G ++ x)[A]'hh = .cells [s0,s1,.is D (.tok K 5),s3]:=fun x hh=>(List.getElem?_eq_some_iff.1 (g2 x)).2
 have s1':∀ x b,(G ++ x).set A b=G.set A b ++ x:=fun x b=>by rw [List.set_append_left _ _ la]
 have hcl:¬ G.length=A:=by omega
 have hlc:¬ A=G.length:=by omega
 have hM':∀ hh,MR[n]'hh=_:=fun hh=>(List.getElem?_eq_some_iff.1 hM).2
 have lM:=(List.getElem?_eq_some_iff.1 hM).1
 subst hi
 have lk:=(List.getElem?_eq_some_iff.1 hK).1
 have hck:¬ A=K:=fun e=>by rw [← e,hA] at hK;cases hK
 have hkc:¬ K=A:=fun e=>hck e.symm
 have hkl:¬ K=G.length:=by omega
 have hlk:¬ G.length=K:=by omega
 have g3:∀ x,(G ++ x)[K]?=some .tok:=fun x=>rapp hK x
 have g3':∀ x (hh:K<(G ++ x).length),(G ++ x)[K]'hh = .tok:=fun x hh=>(List.getElem?_eq_some_iff.1 (g3 x)).2
 have s2:∀ x b,(G ++ x).set K b=G.set K b ++ x:=fun x b=>by rw [List.set_append_left _ _ lk]
 have s3':∀ x,(G.set K .dead ++ x)[A]?=some (.cells [s0,s1,.is D (.tok K 5),s3]):=fun x=>by rw [List.getElem?_append_left (by simpa using la),List.getElem?_set_ne hkc];exact hA
 have s4:∀ x b,(G.set K .dead ++ x).set A b=(G.set K .dead).set A b ++ x:=fun x b=>by rw [List.set_append_left _ _ (by simpa using la)]
 have s5:∀ x (hh:A<(G.set K .dead ++ x).length),(G.set K .dead ++ x)[A]'hh = .cells [s0,s1,.is D (.tok K 5),s3]:=fun x hh=>(List.getElem?_eq_some_iff.1 (s3' x)).2
 have hr6:(D.length+1)*40≤140737488355328:=by omega
 refine Brun_told ?_
 clear hA la hK lk
 simp [*,f138r8,asteps,astep,stepRun,aop,HC.run,HC.rds,HC.wrs,HC.ofOpt,Blk.isFree,wanted,put,cellsOf,isSc,splice,cget,slen,ssz,scells,roomy,rowsz,Cap.tight,drawOK,freeOf,Rec.indep,disj,apart,AOper.looks,AOp.tmps,AO.tmps,pTmps,oTmps,Nat.testBit,ap4,ofL,isPure,tab,fillp,imm,imm.immL,strip,strip.stripL,chunk,Nat.add_assoc,abin,List.replicate]
theorem q13_ok (G:Heap) (A:Nat) (D:List (List AV)) (cap:Cap) (MR:List (List AV)) (c0:Cap) (x1 x4 x8 x9:AV) (pos i ty d:Int) (n:Nat) (nm bits:AV) (E:List (Nat × AV)) (s0 s1 s3:AV) (hA:G[A]?=some (.cells [s0,s1,.is D cap,s3])) (hc:CapP G D cap) (hD:D.length≤100) (q0:isSc s0=true) (q1:isSc s1=true) (q3:isSc s3=true) (hi:i=n) (hM:MR[n]?=some [nm,.int .i64 ty,bits]) (hd:pos.tdiv 8=d) (wd:IntKind.i64.wrap d=d) :
  ∃ P,(G.length≤P.length∧∀ k,k<G.length→k≠A→notCap cap k→P[k]?=G[k]?)∧P[A]?=some (.cells [s0,s1,.is (D ++ [[.int .i64 i,.int .i64 ty,.int .i64 d,.int .i64 0,.int .i64 0]]) (.tok G.length 5),s3])∧P[G.length]?=some .tok ∧
  Brun tab 141 (.region true f137r13 [0,1,4,5,6,7,8,9] 1) (ofL ((0,.is MR c0) :: (1,x1) :: (4,x4) :: (5,.mp A 0) :: (6,.int .i64 pos) :: (7,.int .i64 i) :: (8,x8) :: (9,x9) :: E)) G=some (.normal,ofL [(0,.is MR c0),(1,x1),(4,x4),(5,.mp A 0),(6,.int .i64 pos),(7,.int .i64 i),(8,x8),(9,x9)],P):=by
 have la:=(List.getElem?_eq_some_iff.1 hA).1
 rcases hc with ⟨rfl,rfl⟩|⟨k,rfl,hk⟩
 ·refine ⟨_,⟨by simp,fun j hj h1 h2=>?_⟩,?_,?_,q13_nil G A MR c0 x1 x4 x8 x9 pos i ty d n nm bits E s0 s1 s3 hA q0 q1 q3 hi hM hd wd⟩
  ·rw [List.getElem?_append_left (by simpa using hj),List.getElem?_set_ne (Ne.symm h1)]
  ·rw [List.getElem?_append_left (by simpa using la),List.getElem?_set,if_pos rfl,if_pos la];rfl
  ·rw [List.getElem?_append_right (by simp),List.length_set,Nat.sub_self];rfl
 ·have hkA:k≠A:=fun e=>by rw [e,hA] at hk;cases hk
  refine ⟨_,⟨by simp,fun j hj h1 h2=>?_⟩,?_,?_,q13_tok G A k D MR c0 x1 x4 x8 x9 pos i ty d n nm bits E s0 s1 s3 hA hk hD q0 q1 q3 hi hM hd wd⟩
  ·have h3:k≠j:=fun e=>h2 5 (by rw [e])
   rw [List.getElem?_append_left (by simpa using hj),List.getElem?_set_ne (Ne.symm h1),List.getElem?_set_ne h3]
  ·rw [List.getElem?_append_left (by simpa using la),List.getElem?_set,if_pos rfl,if_pos (by simpa using la)]
  ·rw [List.getElem?_append_right (by simp),List.length_set,List.length_set,Nat.sub_self];rfl
theorem q20_ok (G:Heap) (A:Nat) (D:List (List AV)) (cap:Cap) (MR:List (List AV)) (c0:Cap) (x1 x4:AV) (N8:Nat) (sz:Int) (t1 t2 t3:AV) (u w:Int) (pos i ty d r o:Int) (n:Nat) (nm bits:AV) (E:List (Nat × AV)) (s0 s1 s3:AV) (hA:G[A]?=some (.cells [s0,s1,.is D cap,s3])) (hc:CapP G D cap) (hD:D.length≤100) (q0:isSc s0=true) (q1:isSc s1=true) (q3:isSc s3=true) (hN:G[N8]?=some (.cells [.int .i64 sz,t1,t2,t3])) (hi:i=n) (hM:MR[n]?=some [nm,.int .i64 ty,bits]) (hu:u≠0) (hd:pos.tdiv u=d) (hr:pos.tmod u=r) (wd:IntKind.i64.wrap d=d) (wo:IntKind.i64.wrap (d*sz)=o) :
  ∃ P,(G.length≤P.length∧∀ k,k<G.length→k≠A→notCap cap k→P[k]?=G[k]?)∧P[A]?=some (.cells [s0,s1,.is (D ++ [[.int .i64 i,.int .i64 ty,.int .i64 o,.int .i64 r,.int .i64 w]]) (.tok G.length 5),s3])∧P[G.length]?=some .tok ∧
  Brun tab 141 (.region true f137r20 [0,1,4,5,6,7,8,10] 1) (ofL ((0,.is MR c0) :: (1,x1) :: (4,x4) :: (5,.mp A 0) :: (6,.int .i64 pos) :: (7,.int .i64 i) :: (8,.mp N8 0) :: (9,.int .i64 u) :: (10,.int .i64 w) :: E)) G=some (.normal,ofL [(0,.is MR c0),(1,x1),(4,x4),(5,.mp A 0),(6,.int .i64 pos),(7,.int .i64 i),(8,.mp N8 0),(10,.int .i64 w)],P):=by
 have la:=(List.getElem?_eq_some_iff.1 hA).1
 rcases hc with ⟨rfl,rfl⟩|⟨k,rfl,hk⟩
 ·refine ⟨_,⟨by simp,fun j hj h1 h2=>?_⟩,?_,?_,q20_nil G A MR c0 x1 x4 N8 sz t1 t2 t3 u w pos i ty d r o n nm bits E s0 s1 s3 hA q0 q1 q3 hN hi hM hu hd hr wd wo⟩
  ·rw [List.getElem?_append_left (by simpa using hj),List.getElem?_set_ne (Ne.symm h1)]
  ·rw [List.getElem?_append_left (by simpa using la),List.getElem?_set,if_pos rfl,if_pos la];rfl
  ·rw [List.getElem?_append_right (by simp),List.length_set,Nat.sub_self];rfl
 ·have hkA:k≠A:=fun e=>by rw [e,hA] at hk;cases hk
  refine ⟨_,⟨by simp,fun j hj h1 h2=>?_⟩,?_,?_,q20_tok G A k D MR c0 x1 x4 N8 sz t1 t2 t3 u w pos i ty d r o n nm bits E s0 s1 s3 hA hk hD q0 q1 q3 hN hi hM hu hd hr wd wo⟩
  ·have h3:k≠j:=fun e=>h2 5 (by rw [e])
   rw [List.getElem?_append_left (by simpa using hj),List.getElem?_set_ne (Ne.symm h1),List.getElem?_set_ne h3]
  ·rw [List.getElem?_append_left (by simpa using la),List.getElem?_set,if_pos rfl,if_pos (by simpa using la)]
  ·rw [List.getElem?_append_right (by simp),List.length_set,List.length_set,Nat.sub_self];rfl
theorem q8_ok (G:Heap) (A:Nat) (D:List (List AV)) (cap:Cap) (MR:List (List AV)) (c0:Cap) (x1 x4 x7:AV) (w i ty b:Int) (n:Nat) (nm bits:AV) (E:List (Nat × AV)) (s0 s1 s3:AV) (hA:G[A]?=some (.cells [s0,s1,.is D cap,s3])) (hc:CapP G D cap) (hD:D.length≤100) (q0:isSc s0=true) (q1:isSc s1=true) (q3:isSc s3=true) (hi:i=n) (hM:MR[n]?=some [nm,.int .i64 ty,bits]) (hb:(if (0:Int)<w then w else 0)=b) (hb2:(if w≤0 then (0:Int) else w)=b) :
  ∃ P,(G.length≤P.length∧∀ k,k<G.length→k≠A→notCap cap k→P[k]?=G[k]?)∧P[A]?=some (.cells [s0,s1,.is (D ++ [[.int .i64 i,.int .i64 ty,.int .i64 0,.int .i64 0,.int .i64 b]]) (.tok G.length 5),s3])∧P[G.length]?=some .tok ∧
  Brun tab 90 (.region true f138r8 [0,1,4,5,6,7,8] 1) (ofL ((0,.is MR c0) :: (1,x1) :: (4,x4) :: (5,.mp A 0) :: (6,.int .i64 i) :: (7,x7) :: (8,.int .i64 w) :: E)) G=some (.normal,ofL [(0,.is MR c0),(1,x1),(4,x4),(5,.mp A 0),(6,.int .i64 i),(7,x7),(8,.int .i64 w)],P):=by
 have la:=(List.getElem?_eq_some_iff.1 hA).1
 rcases hc with ⟨rfl,rfl⟩|⟨k,rfl,hk⟩
 ·refine ⟨_,⟨by simp,fun j hj h1 h2=>?_⟩,?_,?_,q8_nil G A MR c0 x1 x4 x7 w i ty b n nm bits E s0 s1 s3 hA q0 q1 q3 hi hM hb hb2⟩
  ·rw [List.getElem?_append_left (by simpa using hj),List.getElem?_set_ne (Ne.symm h1)]
  ·rw [List.getElem?_append_left (by simpa using la),List.getElem?_set,if_pos rfl,if_pos la];rfl
  ·rw [List.getElem?_append_right (by simp),List.length_set,Nat.sub_self];rfl
 ·have hkA:k≠A:=fun e=>by rw [e,hA] at hk;cases hk
  refine ⟨_,⟨by simp,fun j hj h1 h2=>?_⟩,?_,?_,q8_tok G A k D MR c0 x1 x4 x7 w i ty b n nm bits E s0 s1 s3 hA hk hD q0 q1 q3 hi hM hb hb2⟩
  ·have h3:k≠j:=fun e=>h2 5 (by rw [e])
   rw [List.getElem?_append_left (by simpa using hj),List.getElem?_set_ne (Ne.symm h1),List.getElem?_set_ne h3]
  ·rw [List.getElem?_append_left (by simpa using la),List.getElem?_set,if_pos rfl,if_pos (by simpa using la)]
  ·rw [List.getElem?_append_right (by simp),List.length_set,List.length_set,Nat.sub_self];rfl
theorem set_id {G:Heap} {O:Nat} {b:Blk} (h:G[O]?=some b):List.set G O b=G:=by
 have hO:=(List.getElem?_eq_some_iff.1 h).1
 apply List.ext_getElem?
 intro j
 by_cases e:O=j
 ·subst e;rw [List.getElem?_set,if_pos rfl,if_pos hO];exact h.symm
 ·rw [List.getElem?_set_ne e]
theorem up149_ok (h:Heap) (n m:Int) (h0:0≤n∧n≤1000000000) (h1:1≤m∧m≤1000000000):Ccall tab 149 [.int .i64 n,.int .i64 m] h=some (.int .i64 (upS n m),h):=by
 have g:=upS_ge (n:=n) (m:=m) (by omega)
 have w1:IntKind.i64.wrap (n+m)=n+m:=IntWalk.i64_in _ (by omega)
 have w2:IntKind.i64.wrap (n+m - 1)=n+m - 1:=IntWalk.i64_in _ (by omega)
 have ht:(n+m - 1).tdiv m=(n+m - 1) / m:=Int.tdiv_eq_ediv_of_nonneg (by omega)
 have d0:0≤(n+m - 1) / m:=Int.ediv_nonneg (by omega) (by omega)
 have d1:(n+m - 1) / m≤n+m - 1:=Int.ediv_le_self _ (by omega)
 have w3:IntKind.i64.wrap ((n+m - 1) / m)=(n+m - 1) / m:=IntWalk.i64_in _ (by omega)
 unfold upS at g ⊢
 have w4:IntKind.i64.wrap ((n+m - 1) / m*m)=(n+m - 1) / m*m:=IntWalk.i64_in _ (by omega)
 have hm:¬ m=0:=by omega
 refine Ccall_own rfl rfl rfl rfl ?_
 clear g d0 d1 h0 h1
 repeat (any_goals first|simp -dsimp (maxSteps:=4000000) (maxDischargeDepth:=8) -implicitDefEqProofs [*,-Int.not_le,-Int.not_lt,amLt]|with_reducible (first|apply cB|apply iB)<;>intro _|intro _)
structure DepAt (Y N:Nat) (ys:List (List AV)) (G:Heap):Prop where
 blk:G[Y]?=some (.cells ys.flatten)
 len:ys.length=N
 row:∀ r ∈ ys,r.length=4
theorem DepAt.app {Y N:Nat} {ys:List (List AV)} {G:Heap} (h:DepAt Y N ys G) (x:Heap):DepAt Y N ys (G ++ x):=⟨rapp h.blk x,h.len,h.row⟩
section
variable {Y N A4 A:Nat} {ex:Bool} {l:List Mem} {c0:Cap} {ys:List (List AV)}
def envR (Y N A4 A:Nat) (ex:Bool) (l:List Mem) (c0:Cap) (pos i:Int):List (Nat × AV):=[(0,.is (memRows l) c0),(1,.ms Y 0 N 4 N ex),(4,.mp A4 0),(5,.mp A 0),(6,.int .i64 pos),(7,.int .i64 i)]
def yC (al:Int) (pl:List PlT) (cap:Cap):Blk:= .cells [.int .i64 0,.int .i64 al,.is (plRows pl) cap,.bool true]
theorem rec_step (E:Int→LayT) (s:AtT) (i:Nat) (m:Mem) (v:RowV) (G:Heap) (cap:Cap) (hl:l.length≤64) (hi:l[i]?=some m) (hm:MemFit E m) (hs:AtOK E l s) (hps:s.pos≤i*131200) (hpl:s.pl.length≤64)
  (hy:DepAt Y N ys G) (hN:N≤512) (h0:0≤m.2.1) (hv:ys[m.2.1.toNat]?=some v.row) (hvf:v.fine=true) (hve:v.sz=(E m.2.1).size∧v.al=(E m.2.1).align) (hA:G[A]?=some (yC s.al s.pl cap)) (hAY:A≠Y) (hc:CapP G (plRows s.pl) cap) :
  ∃ G2 cap2,G.length≤G2.length∧(∀ k,k<G.length→k≠A→notCap cap k→G2[k]?=G[k]?)∧G2[A]?=some (yC (stepS E s i m).al (stepS E s i m).pl cap2)∧CapP G2 (plRows (stepS E s i m).pl) cap2∧(∀ k,cap2 = .tok k 5→cap = .tok k 5∨G.length≤k) ∧
   Brun tab 141 f137l4 (ofL (envR Y N A4 A ex l c0 s.pos i)) G=some (.normal,ofL (envR Y N A4 A ex l c0 (stepS E s i m).pos (i+1)),G2):=by
 have hil:=(List.getElem?_eq_some_iff.1 hi).1
 have hrow:(memRows l)[i]?=some (memRow m):=by simp [memRows,hi]
 have hrow2:∀ hh:i<(memRows l).length,(memRows l)[i]=memRow m:=fun hh=>(List.getElem?_eq_some_iff.1 hrow).2
 have hml:=memRows_len l
 have h1:(i:Int)<l.length:=by omega
 have hw64:=cw64 i (by omega)
 have hf:=hm.fine
 have hlo:=hf.lo
 have hhi:=hf.hi
 have hal:=hf.al
 have hsp:=hs.pos
 have hsal:=hs.al
 have la:=(List.getElem?_eq_some_iff.1 hA).1
 have ly:=(List.getElem?_eq_some_iff.1 hv).1
 have hpos:s.pos≤9000000:=by omega
 obtain ⟨hsz,hva⟩:=hve
 have hfl:=flat4_row hv hy.row
 have hfn:=flat4_len ys hy.row
 rw [hy.len] at hfn ly
 have hyx:=fun x=>rapp (X:=x) hy.blk
 have hAx:=fun x=>rapp (X:=x) hA
 have k1:m.2.1<(N:Int):=by omega
 have k2:m.2.1.toNat*4+4≤N*4:=by omega
 have ssA:∀ x,(G ++ x).set A (yC s.al s.pl cap)=G ++ x:=fun x=>set_id (rapp hA x)
 have wu:IntKind.i64.wrap (8*(E m.2.1).size)=8*(E m.2.1).size:=IntWalk.i64_in _ (by omega)
 have hc1:CapP (G ++ [.cells v.row]) (plRows s.pl) cap:=by
  rcases hc with hc|⟨k,q1,q2⟩
  ·exact .inl hc
  ·exact .inr ⟨k,q1,rapp q2 _⟩
 have hA1:(G ++ [.cells v.row])[A]?=some (yC s.al s.pl cap):=rapp hA _
 have hG1:(G ++ [Blk.cells v.row]).length=G.length+1:=by simp
 have hPL:(plRows s.pl).length≤100:=by unfold plRows;rw [List.length_map];omega
 have hrowM:(memRows l)[i]?=some [.str m.1,.int .i64 m.2.1,.int .i64 m.2.2]:=hrow
 have h8:(G ++ [Blk.cells v.row])[G.length]?=some (.cells v.row):=by rw [List.getElem?_append_right (Nat.le_refl _),Nat.sub_self];rfl
 have hap:∀ (p:PlT),plRows s.pl ++ [plRow p]=plRows (s.pl ++ [p]):=fun p=>by simp [plRows]
 have fin:∀ (P:Heap) (p:PlT) (al':Int),((G ++ [Blk.cells v.row]).length≤P.length∧∀ k,k<(G ++ [Blk.cells v.row]).length→k≠A→notCap cap k→P[k]?=(G ++ [Blk.cells v.row])[k]?)→P[A]?=some (.cells [.int .i64 0,.int .i64 s.al,.is (plRows s.pl ++ [plRow p]) (.tok (G ++ [Blk.cells v.row]).length 5),.bool true])→P[(G ++ [Blk.cells v.row]).length]?=some .tok →
   G.length≤(P.set A (yC al' (s.pl ++ [p]) (.tok (G.length+1) 5))).length∧(∀ k,k<G.length→k≠A→notCap cap k→(P.set A (yC al' (s.pl ++ [p]) (.tok (G.length+1) 5)))[k]?=G[k]?)∧(P.set A (yC al' (s.pl ++ [p]) (.tok (G.length+1) 5)))[A]?=some (yC al' (s.pl ++ [p]) (.tok (G.length+1) 5)) ∧
   CapP (P.set A (yC al' (s.pl ++ [p]) (.tok (G.length+1) 5))) (plRows (s.pl ++ [p])) (.tok (G.length+1) 5)∧(∀ k,Cap.tok (G.length+1) 5 = .tok k 5→cap = .tok k 5∨G.length≤k)∧P[G.length]?=some (.cells v.row):=fun P p al' q1 q2 q3=>by
  rw [hG1] at q1 q2 q3
  have hn8:notCap cap G.length:=fun s' q=>by
   rcases hc1 with ⟨z,_⟩|⟨k,z1,z2⟩
   ·rw [z] at q;cases q
   ·rw [z1] at q;cases q;rw [h8] at z2;cases z2
  refine ⟨by rw [List.length_set];omega,fun k z1 z2 z3=>?_,by rw [List.getElem?_set,if_pos rfl,if_pos (by omega)],.inr ⟨G.length+1,rfl,?_⟩,fun k z=>?_,?_⟩
  ·rw [List.getElem?_set_ne (Ne.symm z2),q1.2 k (by omega) z2 z3,List.getElem?_append_left z1]
  ·rw [List.getElem?_set_ne (by omega)];exact q3
  ·right;cases z;omega
  ·rw [q1.2 _ (by omega) (by omega) hn8];exact h8
 unfold stepS
 by_cases hb:m.2.2<0
 ·rw [if_pos hb]
  dsimp only
  have hup:=fun h=>up149_ok h s.pos (8*(E m.2.1).align) (by omega) (by omega)
  have hg:=upS_ge (n:=s.pos) (m:=8*(E m.2.1).align) (by omega)
  have wa:IntKind.i64.wrap (8*(E m.2.1).align)=8*(E m.2.1).align:=IntWalk.i64_in _ (by omega)
  generalize upS s.pos (8*(E m.2.1).align)=a at *
  have td:a.tdiv 8=a / 8:=Int.tdiv_eq_ediv_of_nonneg (by omega)
  have wd:IntKind.i64.wrap (a / 8)=a / 8:=IntWalk.i64_in _ (by omega)
  have ws:IntKind.i64.wrap (a+8*(E m.2.1).size)=a+8*(E m.2.1).size:=IntWalk.i64_in _ (by omega)
  obtain ⟨P,p1,p2,p3,p4⟩:=q13_ok (G ++ [.cells v.row]) A (plRows s.pl) cap (memRows l) c0 (.ms Y 0 N 4 N ex) (.mp A4 0) (.mp G.length 0) (.int .i64 (8*(E m.2.1).size)) a i m.2.1 (a / 8) i (.str m.1) (.int .i64 m.2.2) [] (.int .i64 0) (.int .i64 s.al) (.bool true) hA1 hc1 hPL rfl rfl rfl rfl hrowM td wd
  obtain ⟨f1,f2,f3,f4,f5,f6⟩:=fin P ⟨i,m.2.1,a / 8,0,0⟩ (max s.al (E m.2.1).align) p1 p2 p3
  refine ⟨_,.tok (G.length+1) 5,f1,f2,f3,f4,f5,?_⟩
  have hrg:P[A]?=some (.cells [.int .i64 0,.int .i64 s.al,.is (plRows (s.pl ++ [⟨i,m.2.1,a / 8,0,0⟩])) (.tok (G.length+1) 5),.bool true]):=by rw [← hap,← hG1];exact p2
  unfold envR
  rw [f137l4_b]
  unfold f137m4
  unfold RowV.row yC memRow at *
  rw [hsz,hva,hvf] at *
  generalize plRows (s.pl ++ [⟨i,m.2.1,a / 8,0,0⟩])=PL at *
  generalize plRows s.pl=PS at *
  generalize plRows v.L=PV at *
  generalize (E m.2.1).size=sz at *
  generalize (E m.2.1).align=al at *
  generalize ACode.region true f137r13 [0,1,4,5,6,7,8,9] 1=rg at *
  generalize ACode.region true f137r20 [0,1,4,5,6,7,8,10] 1=rg2 at *
  obtain ⟨nm,ty,bits⟩:=m
  dsimp only at *
  generalize memRows l=X at *
  generalize ys.flatten=YF at *
  clear hi hm hs hps hpl hA hc hf hlo hhi hal hsp hsal la hpos hg hil f1 f2 f3 f4 f5 fin p1 p2 p3 hc1 hA1 hG1 h8 hap hy hv ly hl hrowM
  repeat (any_goals first|simp -dsimp (maxSteps:=4000000) (maxDischargeDepth:=8) -implicitDefEqProofs [*,-Int.not_le,-Int.not_lt,amLt,maxI1,ap4]|with_reducible (first|apply cB|apply iB)<;>intro _|intro _)
 ·rw [if_neg hb]
  obtain ⟨hw,hw2⟩:=hm.word (by omega)
  rw [← hw] at hal hva
  by_cases h00:m.2.2=0
  ·rw [if_pos h00]
   dsimp only
   have hup:=fun h=>up149_ok h s.pos (8*(E m.2.1).size) (by omega) (by omega)
   refine ⟨G ++ [.cells v.row],cap,by simp,fun k z1 z2 z3=>List.getElem?_append_left z1,hA1,hc1,fun k z => .inl z,?_⟩
   unfold envR
   rw [f137l4_b]
   unfold f137m4
   unfold RowV.row yC memRow at *
   rw [hsz,hva,hvf] at *
   generalize upS s.pos (8*(E m.2.1).size)=a at *
   generalize plRows s.pl=PS at *
   generalize plRows v.L=PV at *
   generalize (E m.2.1).size=sz at *
   generalize ACode.region true f137r13 [0,1,4,5,6,7,8,9] 1=rg at *
   generalize ACode.region true f137r20 [0,1,4,5,6,7,8,10] 1=rg2 at *
   obtain ⟨nm,ty,bits⟩:=m
   dsimp only at *
   subst h00
   generalize memRows l=X at *
   generalize ys.flatten=YF at *
   clear hi hm hs hps hpl hA hc hf hlo hhi hal hsp hsal la hpos hil fin hc1 hA1 hG1 h8 hap hy hv ly hl hrowM hb hw hw2
   repeat (any_goals first|simp -dsimp (maxSteps:=4000000) (maxDischargeDepth:=8) -implicitDefEqProofs [*,-Int.not_le,-Int.not_lt,amLt,maxI1,ap4]|with_reducible (first|apply cB|apply iB)<;>intro _|intro _)
  ·rw [if_neg h00]
   dsimp only
   have hup:=fun h=>up149_ok h s.pos (8*(E m.2.1).size) (by omega) (by omega)
   have htd:s.pos.tdiv (8*(E m.2.1).size)=s.pos / (8*(E m.2.1).size):=Int.tdiv_eq_ediv_of_nonneg hsp
   have htd2:(s.pos+m.2.2 - 1).tdiv (8*(E m.2.1).size)=(s.pos+m.2.2 - 1) / (8*(E m.2.1).size):=Int.tdiv_eq_ediv_of_nonneg (by omega)
   have hmv:=moveS_ok (s:=s.pos) (u:=8*(E m.2.1).size) (b:=m.2.2) hsp (by omega) (by omega) hw2
   have c1:IntKind.i64.wrap (s.pos+m.2.2)=s.pos+m.2.2:=IntWalk.i64_in _ (by omega)
   have c2:IntKind.i64.wrap (s.pos+m.2.2 - 1)=s.pos+m.2.2 - 1:=IntWalk.i64_in _ (by omega)
   have c3:IntKind.i64.wrap (s.pos / (8*(E m.2.1).size))=s.pos / (8*(E m.2.1).size):=IntWalk.i64_in _ (by
    have:=Int.ediv_nonneg hsp (b:=8*(E m.2.1).size) (by omega)
    have:=Int.ediv_le_self (8*(E m.2.1).size) hsp
    omega)
   have c4:IntKind.i64.wrap ((s.pos+m.2.2 - 1) / (8*(E m.2.1).size))=(s.pos+m.2.2 - 1) / (8*(E m.2.1).size):=IntWalk.i64_in _ (by
    have:=Int.ediv_nonneg (a:=s.pos+m.2.2 - 1) (by omega) (b:=8*(E m.2.1).size) (by omega)
    have:=Int.ediv_le_self (a:=s.pos+m.2.2 - 1) (8*(E m.2.1).size) (by omega)
    omega)
   have hu0:8*(E m.2.1).size≠0:=by omega
   have hu0':¬ (E m.2.1).size=0:=by omega
   obtain ⟨a,hae⟩:∃ a,a=moveS s.pos (8*(E m.2.1).size) m.2.2:=⟨_,rfl⟩
   rw [← hae] at hmv ⊢
   have td:a.tdiv (8*(E m.2.1).size)=a / (8*(E m.2.1).size):=Int.tdiv_eq_ediv_of_nonneg (by omega)
   have tm:a.tmod (8*(E m.2.1).size)=a % (8*(E m.2.1).size):=Int.tmod_eq_emod_of_nonneg (by omega)
   have d0:0≤a / (8*(E m.2.1).size):=Int.ediv_nonneg (by omega) (by omega)
   have d1:a / (8*(E m.2.1).size)≤a:=Int.ediv_le_self _ (by omega)
   have wd:IntKind.i64.wrap (a / (8*(E m.2.1).size))=a / (8*(E m.2.1).size):=IntWalk.i64_in _ (by omega)
   have d2:(a / (8*(E m.2.1).size))*(E m.2.1).size≤a*4:=Int.mul_le_mul d1 (by omega) (by omega) (by omega)
   have d3:0≤(a / (8*(E m.2.1).size))*(E m.2.1).size:=Int.mul_nonneg d0 (by omega)
   have wo:IntKind.i64.wrap ((a / (8*(E m.2.1).size))*(E m.2.1).size)=(E m.2.1).size*(a / (8*(E m.2.1).size)):=by rw [IntWalk.i64_in _ (by omega),Int.mul_comm]
   have ws:IntKind.i64.wrap (a+m.2.2)=a+m.2.2:=IntWalk.i64_in _ (by omega)
   have h8':(G ++ [Blk.cells v.row])[G.length]?=some (.cells [.int .i64 (E m.2.1).size,.int .i64 (E m.2.1).size,.is (plRows v.L) v.cap,.bool true]):=by rw [h8];unfold RowV.row;rw [hsz,hva,hvf]
   have reg:=fun (pos:Int) (ep:pos=a) (EE:List (Nat × AV))=>q20_ok (G ++ [.cells v.row]) A (plRows s.pl) cap (memRows l) c0 (.ms Y 0 N 4 N ex) (.mp A4 0) G.length (E m.2.1).size (.int .i64 (E m.2.1).size) (.is (plRows v.L) v.cap) (.bool true) (8*(E m.2.1).size) m.2.2 a i m.2.1 (a / (8*(E m.2.1).size)) (a % (8*(E m.2.1).size)) ((E m.2.1).size*(a / (8*(E m.2.1).size))) i (.str m.1) (.int .i64 m.2.2) EE (.int .i64 0) (.int .i64 s.al) (.bool true) hA1 hc1 hPL rfl rfl rfl h8' rfl hrowM hu0 td tm wd wo
   by_cases cm:s.pos / (8*(E m.2.1).size)=(s.pos+m.2.2 - 1) / (8*(E m.2.1).size)
   ·have ha2:a=s.pos:=by rw [hae];unfold moveS;rw [if_pos cm]
    obtain ⟨P,p1,p2,p3,p4⟩:=reg a rfl [(54,.bool false)]
    by_cases cn:m.1=[]
    ·obtain ⟨f1,f2,f3,f4,f5,f6⟩:=fin P ⟨i,m.2.1,(E m.2.1).size*(a / (8*(E m.2.1).size)),a % (8*(E m.2.1).size),m.2.2⟩ s.al p1 p2 p3
     rw [if_neg (by simpa using cn)]
     refine ⟨_,.tok (G.length+1) 5,f1,f2,f3,f4,f5,?_⟩
     have ssP:P.set A (yC s.al (s.pl ++ [⟨i,m.2.1,(E m.2.1).size*(a / (8*(E m.2.1).size)),a % (8*(E m.2.1).size),m.2.2⟩]) (.tok (G.length+1) 5))=P:=set_id (by unfold yC;rw [← hap,← hG1];exact p2)
     rw [ssP]
     unfold envR
     rw [f137l4_b]
     unfold f137m4
     unfold RowV.row yC memRow at *
     rw [hsz,hva,hvf] at *
     generalize plRows (s.pl ++ [⟨i,m.2.1,(E m.2.1).size*(a / (8*(E m.2.1).size)),a % (8*(E m.2.1).size),m.2.2⟩])=PL at *
     generalize a % (8*(E m.2.1).size)=ar at *
     generalize (E m.2.1).size*(a / (8*(E m.2.1).size))=ao at *
     generalize plRows s.pl=PS at *
     generalize plRows v.L=PV at *
     generalize (E m.2.1).size=sz at *
     generalize ACode.region true f137r13 [0,1,4,5,6,7,8,9] 1=rg at *
     generalize ACode.region true f137r20 [0,1,4,5,6,7,8,10] 1=rg2 at *
     obtain ⟨nm,ty,bits⟩:=m
     dsimp only at *
     subst cn
     generalize memRows l=X at *
     generalize ys.flatten=YF at *
     rw [ha2] at *
     have hb0:0≤bits:=by omega
     clear hi hm hs hps hpl hA hc hf hlo hhi hal hsp hsal la hpos hil fin hc1 hA1 hG1 h8 h8' hap hy hv ly hl hrowM hw hw2 hmv d0 d1 d2 d3 hae reg td tm wo wd p1 p2 p3 ssP f1 f2 f3 f4 f5 ha2 hb
     repeat (any_goals first|simp -dsimp (maxSteps:=4000000) (maxDischargeDepth:=8) -implicitDefEqProofs [*,-Int.not_le,-Int.not_lt,amLt,maxI1,ap4]|with_reducible (first|apply cB|apply iB)<;>intro _|intro _)
    ·obtain ⟨f1,f2,f3,f4,f5,f6⟩:=fin P ⟨i,m.2.1,(E m.2.1).size*(a / (8*(E m.2.1).size)),a % (8*(E m.2.1).size),m.2.2⟩ (max s.al (E m.2.1).size) p1 p2 p3
     rw [if_pos cn]
     refine ⟨_,.tok (G.length+1) 5,f1,f2,f3,f4,f5,?_⟩
     have hrg:P[A]?=some (.cells [.int .i64 0,.int .i64 s.al,.is (plRows (s.pl ++ [⟨i,m.2.1,(E m.2.1).size*(a / (8*(E m.2.1).size)),a % (8*(E m.2.1).size),m.2.2⟩])) (.tok (G.length+1) 5),.bool true]):=by rw [← hap,← hG1];exact p2
     unfold envR
     rw [f137l4_b]
     unfold f137m4
     unfold RowV.row yC memRow at *
     rw [hsz,hva,hvf] at *
     generalize plRows (s.pl ++ [⟨i,m.2.1,(E m.2.1).size*(a / (8*(E m.2.1).size)),a % (8*(E m.2.1).size),m.2.2⟩])=PL at *
     generalize a % (8*(E m.2.1).size)=ar at *
     generalize (E m.2.1).size*(a / (8*(E m.2.1).size))=ao at *
     generalize plRows s.pl=PS at *
     generalize plRows v.L=PV at *
     generalize (E m.2.1).size=sz at *
     generalize ACode.region true f137r13 [0,1,4,5,6,7,8,9] 1=rg at *
     generalize ACode.region true f137r20 [0,1,4,5,6,7,8,10] 1=rg2 at *
     obtain ⟨nm,ty,bits⟩:=m
     dsimp only at *
     generalize memRows l=X at *
     generalize ys.flatten=YF at *
     rw [ha2] at *
     have hb0:0≤bits:=by omega
     clear hi hm hs hps hpl hA hc hf hlo hhi hal hsp hsal la hpos hil fin hc1 hA1 hG1 h8 h8' hap hy hv ly hl hrowM hw hw2 hmv d0 d1 d2 d3 hae reg td tm wo wd p1 p2 p3 f1 f2 f3 f4 f5 ha2 hb
     repeat (any_goals first|simp -dsimp (maxSteps:=4000000) (maxDischargeDepth:=8) -implicitDefEqProofs [*,-Int.not_le,-Int.not_lt,amLt,maxI1,ap4]|with_reducible (first|apply cB|apply iB)<;>intro _|intro _)
   ·have ha2:a=upS s.pos (8*(E m.2.1).size):=by rw [hae];unfold moveS;rw [if_neg cm]
    rw [← ha2] at hup
    obtain ⟨P,p1,p2,p3,p4⟩:=reg a rfl []
    by_cases cn:m.1=[]
    ·obtain ⟨f1,f2,f3,f4,f5,f6⟩:=fin P ⟨i,m.2.1,(E m.2.1).size*(a / (8*(E m.2.1).size)),a % (8*(E m.2.1).size),m.2.2⟩ s.al p1 p2 p3
     rw [if_neg (by simpa using cn)]
     refine ⟨_,.tok (G.length+1) 5,f1,f2,f3,f4,f5,?_⟩
     have ssP:P.set A (yC s.al (s.pl ++ [⟨i,m.2.1,(E m.2.1).size*(a / (8*(E m.2.1).size)),a % (8*(E m.2.1).size),m.2.2⟩]) (.tok (G.length+1) 5))=P:=set_id (by unfold yC;rw [← hap,← hG1];exact p2)
     rw [ssP]
     unfold envR
     rw [f137l4_b]
     unfold f137m4
     unfold RowV.row yC memRow at *
     rw [hsz,hva,hvf] at *
     generalize plRows (s.pl ++ [⟨i,m.2.1,(E m.2.1).size*(a / (8*(E m.2.1).size)),a % (8*(E m.2.1).size),m.2.2⟩])=PL at *
     generalize a % (8*(E m.2.1).size)=ar at *
     generalize (E m.2.1).size*(a / (8*(E m.2.1).size))=ao at *
     generalize plRows s.pl=PS at *
     generalize plRows v.L=PV at *
     generalize (E m.2.1).size=sz at *
     generalize ACode.region true f137r13 [0,1,4,5,6,7,8,9] 1=rg at *
     generalize ACode.region true f137r20 [0,1,4,5,6,7,8,10] 1=rg2 at *
     obtain ⟨nm,ty,bits⟩:=m
     dsimp only at *
     subst cn
     generalize memRows l=X at *
     generalize ys.flatten=YF at *
     have hb0:0≤bits:=by omega
     clear hi hm hs hps hpl hA hc hf hlo hhi hal hsp hsal la hpos hil fin hc1 hA1 hG1 h8 h8' hap hy hv ly hl hrowM hw hw2 hmv d0 d1 d2 d3 hae reg td tm wo wd p1 p2 p3 ssP f1 f2 f3 f4 f5 ha2 hb
     repeat (any_goals first|simp -dsimp (maxSteps:=4000000) (maxDischargeDepth:=8) -implicitDefEqProofs [*,-Int.not_le,-Int.not_lt,amLt,maxI1,ap4]|with_reducible (first|apply cB|apply iB)<;>intro _|intro _)
    ·obtain ⟨f1,f2,f3,f4,f5,f6⟩:=fin P ⟨i,m.2.1,(E m.2.1).size*(a / (8*(E m.2.1).size)),a % (8*(E m.2.1).size),m.2.2⟩ (max s.al (E m.2.1).size) p1 p2 p3
     rw [if_pos cn]
     refine ⟨_,.tok (G.length+1) 5,f1,f2,f3,f4,f5,?_⟩
     have hrg:P[A]?=some (.cells [.int .i64 0,.int .i64 s.al,.is (plRows (s.pl ++ [⟨i,m.2.1,(E m.2.1).size*(a / (8*(E m.2.1).size)),a % (8*(E m.2.1).size),m.2.2⟩])) (.tok (G.length+1) 5),.bool true]):=by rw [← hap,← hG1];exact p2
     unfold envR
     rw [f137l4_b]
     unfold f137m4
     unfold RowV.row yC memRow at *
     rw [hsz,hva,hvf] at *
     generalize plRows (s.pl ++ [⟨i,m.2.1,(E m.2.1).size*(a / (8*(E m.2.1).size)),a % (8*(E m.2.1).size),m.2.2⟩])=PL at *
     generalize a % (8*(E m.2.1).size)=ar at *
     generalize (E m.2.1).size*(a / (8*(E m.2.1).size))=ao at *
     generalize plRows s.pl=PS at *
     generalize plRows v.L=PV at *
     generalize (E m.2.1).size=sz at *
     generalize ACode.region true f137r13 [0,1,4,5,6,7,8,9] 1=rg at *
     generalize ACode.region true f137r20 [0,1,4,5,6,7,8,10] 1=rg2 at *
     obtain ⟨nm,ty,bits⟩:=m
     dsimp only at *
     generalize memRows l=X at *
     generalize ys.flatten=YF at *
     have hb0:0≤bits:=by omega
     clear hi hm hs hps hpl hA hc hf hlo hhi hal hsp hsal la hpos hil fin hc1 hA1 hG1 h8 h8' hap hy hv ly hl hrowM hw hw2 hmv d0 d1 d2 d3 hae reg td tm wo wd p1 p2 p3 f1 f2 f3 f4 f5 ha2 hb
     repeat (any_goals first|simp -dsimp (maxSteps:=4000000) (maxDischargeDepth:=8) -implicitDefEqProofs [*,-Int.not_le,-Int.not_lt,amLt,maxI1,ap4]|with_reducible (first|apply cB|apply iB)<;>intro _|intro _)
end
def zL:List AV:=[.int .i64 0,.int .i64 0,.is [] .nil,.bool false]
section
variable {t:List TR} {F Y N A4 A base:Nat} {ex:Bool} {l:List Mem} {c0:Cap} {ys:List (List AV)}
theorem rec_loop (hl:l.length≤64) (hfit:∀ m ∈ l,MemFit (layF t F) m) (hN:N≤512) (hv:∀ m ∈ l,0≤m.2.1∧∃ v:RowV,ys[m.2.1.toNat]?=some v.row∧RowOKV t F m.2.1 v) (hb:Y<base∧base≤A4∧base≤A∧A4≠A):∀ (n i:Nat) (s:AtT) (G:Heap) (cap:Cap),i+n=l.length→AtOK (layF t F) l s→s.pos≤i*131200→s.pl.length≤i→DepAt Y N ys G→G[A]?=some (yC s.al s.pl cap)→G[A4]?=some (.cells zL)→CapP G (plRows s.pl) cap→(∀ k,cap = .tok k 5→base≤k)→base≤G.length →
  (anyBig t F (l.drop i)=false→∃ E' G' cap',G.length≤G'.length∧(∀ k,k<base→G'[k]?=G[k]?)∧AtOK (layF t F) l (foldS (layF t F) i (l.drop i) s)∧(foldS (layF t F) i (l.drop i) s).pos≤l.length*131200∧G'[A]?=some (yC (foldS (layF t F) i (l.drop i) s).al (foldS (layF t F) i (l.drop i) s).pl cap')∧G'[A4]?=some (.cells zL) ∧
   Brun tab 141 (.loop f137l4) (ofL (envR Y N A4 A ex l c0 s.pos i)) G=some (.exit 0,ofL ((0,.is (memRows l) c0) :: (1,.ms Y 0 N 4 N ex) :: (4,.mp A4 0) :: (5,.mp A 0) :: (6,.int .i64 (foldS (layF t F) i (l.drop i) s).pos) :: E'),G')) ∧
  (anyBig t F (l.drop i)=true→∃ E' G' al L cap',G.length≤G'.length∧(∀ k,k<base→G'[k]?=G[k]?)∧(al=1∨al=2∨al=4)∧G'[A4]?=some (.cells [.int .i64 0,.int .i64 al,.is (plRows L) cap',.bool false]) ∧
   Brun tab 141 (.loop f137l4) (ofL (envR Y N A4 A ex l c0 s.pos i)) G=some (.ret,ofL ((4,.mp A4 0) :: E'),G')):=by
 obtain ⟨b1,b2,b3,b4⟩:=hb
 have hml:=memRows_len l
 intro n
 induction n with
 | zero =>
  intro i s G cap hi hs hp hpl hy hA hA4 hc hcb hGb
  have e:l.drop i=[]:=List.drop_eq_nil_of_le (by omega)
  rw [e]
  refine ⟨fun _=>⟨[(7,.int .i64 i),(15,.bool false)],G,cap,Nat.le_refl _,fun _ _=>rfl,hs,by simp only [foldS];omega,hA,hA4,?_⟩,fun h=>(by cases h)⟩
  have q1:¬ (i:Int)<l.length:=by omega
  have q2:(l.length:Int)≤i:=by omega
  unfold envR foldS
  rw [Brun_loop,f137l4_b]
  unfold f137m4
  generalize memRows l=X at *
  clear hfit hv hs hp hpl hy hA hA4 hc hcb hGb hi e
  repeat (any_goals first|simp -dsimp (maxSteps:=4000000) (maxDischargeDepth:=8) -implicitDefEqProofs [*,-Int.not_le,-Int.not_lt,amLt]|with_reducible (first|apply cB|apply iB)<;>intro _|intro _)
 | succ n ih =>
  intro i s G cap hi hs hp hpl hy hA hA4 hc hcb hGb
  have hil:i<l.length:=by omega
  have hm0:=List.getElem?_eq_getElem hil
  have hmm:=List.getElem_mem hil
  rw [List.drop_eq_getElem_cons hil]
  obtain ⟨m0,v,hv1,hv2⟩:=hv _ hmm
  have hft:=hfit _ hmm
  by_cases hbg:bigF t F l[i].2.1=true
  ·refine ⟨fun h=>?_,fun _=>?_⟩
   ·unfold anyBig at h
    rw [List.any_cons,hbg] at h
    cases h
   ·have hvf:v.fine=false:=by rw [hv2.fine,hbg];rfl
    have la:=(List.getElem?_eq_some_iff.1 hA).1
    have l4:=(List.getElem?_eq_some_iff.1 hA4).1
    have ly:=(List.getElem?_eq_some_iff.1 hv1).1
    have hfl:=flat4_row hv1 hy.row
    have hfn:=flat4_len ys hy.row
    rw [hy.len] at hfn ly
    have hyx:=fun x=>rapp (X:=x) hy.blk
    have hAx:=fun x=>rapp (X:=x) hA
    have h4x:=fun x=>rapp (X:=x) hA4
    have k1:l[i].2.1<(N:Int):=by omega
    have k2:l[i].2.1.toNat*4+4≤N*4:=by omega
    have hrow:(memRows l)[i]?=some (memRow l[i]):=by simp [memRows,hm0]
    have hrow2:∀ hh:i<(memRows l).length,(memRows l)[i]=memRow l[i]:=fun hh=>(List.getElem?_eq_some_iff.1 hrow).2
    have h1:(i:Int)<l.length:=by omega
    have hvs:=hv2.sz
    have wu:IntKind.i64.wrap (8*v.sz)=8*v.sz:=IntWalk.i64_in _ (by omega)
    have sA:∀ x b,(G ++ x).set A b=G.set A b ++ x:=fun x b=>by rw [List.set_append_left _ _ la]
    have s4:∀ x b,(G.set A x).set A4 b=(G.set A x).set A4 b:=fun x b=>rfl
    have gA:∀ b x,(G.set A b ++ x)[A]?=some b:=fun b x=>by rw [List.getElem?_append_left (by simpa using la),List.getElem?_set,if_pos rfl,if_pos la]
    have g4:∀ b x,(G.set A b ++ x)[A4]?=some (.cells zL):=fun b x=>by rw [List.getElem?_append_left (by simpa using l4),List.getElem?_set_ne (Ne.symm b4)];exact hA4
    have t4:∀ b x y,(G.set A b ++ x).set A4 y=(G.set A b).set A4 y ++ x:=fun b x y=>by rw [List.set_append_left _ _ (by simpa using l4)]
    have hGl:∀ b,(G.set A b).length=G.length:=fun b=>List.length_set ..
    refine ⟨[],(G.set A (.cells [.int .i64 0,.int .i64 s.al,.is (plRows s.pl) cap,.bool false])).set A4 (.cells [.int .i64 0,.int .i64 s.al,.is (plRows s.pl) cap,.bool false]) ++ [.cells v.row],s.al,s.pl,cap,by simp,fun k hk=>?_,hs.al,?_,?_⟩
    ·rw [List.getElem?_append_left (by simp;omega),List.getElem?_set_ne (by omega),List.getElem?_set_ne (by omega)]
    ·rw [List.getElem?_append_left (by simpa using l4),List.getElem?_set,if_pos rfl,if_pos (by simpa using l4)]
    ·unfold envR
     rw [Brun_loop,f137l4_b]
     unfold f137m4
     unfold RowV.row yC zL memRow at *
     rw [hvf] at *
     generalize plRows s.pl=PS at *
     generalize plRows v.L=PV at *
     generalize v.sz=sz at *
     generalize v.al=al at *
     generalize s.al=sal at *
     generalize ACode.region true f137r13 [0,1,4,5,6,7,8,9] 1=rg at *
     generalize ACode.region true f137r20 [0,1,4,5,6,7,8,10] 1=rg2 at *
     clear hmm hm0 hv1 hv2 hft hbg
     generalize l[i]=mi at *
     obtain ⟨nm,ty,bits⟩:=mi
     dsimp only at *
     generalize memRows l=X at *
     generalize ys.flatten=YF at *
     clear ih hfit hv hs hp hpl hy hA hA4 hc hcb hGb hi hvs la l4 ly b1 b2 b3 s4
     repeat (any_goals first|simp -dsimp (maxSteps:=4000000) (maxDischargeDepth:=8) -implicitDefEqProofs [*,-Int.not_le,-Int.not_lt,amLt,ap4]|with_reducible (first|apply cB|apply iB)<;>intro _|intro _)
  ·simp only [Bool.not_eq_true] at hbg
   have hvf:v.fine=true:=by rw [hv2.fine,hbg];rfl
   obtain ⟨v1,v2,_⟩:=hv2.eq hbg
   obtain ⟨G2,cap2,g1,g2,g3,g4,g5,g6⟩:=rec_step (A4:=A4) (ex:=ex) (c0:=c0) (layF t F) s i l[i] v G cap hl hm0 hft hs hp (by omega) hy hN m0 hv1 hvf ⟨v1,v2⟩ hA (by omega) hc
   obtain ⟨hs2,hp2⟩:=step_ok hs hm0 hft
   have hnb:∀ k,k<base→notCap cap k:=fun k hk s' q=>by
    rcases hc with ⟨z,_⟩|⟨k',z1,z2⟩
    ·rw [z] at q;cases q
    ·have:=hcb k' z1
     rw [z1] at q;cases q;omega
   have hn4:notCap cap A4:=fun s' q=>by
    rcases hc with ⟨z,_⟩|⟨k',z1,z2⟩
    ·rw [z] at q;cases q
    ·rw [z1] at q;cases q;rw [hA4] at z2;cases z2
   have l4:=(List.getElem?_eq_some_iff.1 hA4).1
   have hpl2:(stepS (layF t F) s i l[i]).pl.length≤i+1:=by
    unfold stepS
    split
    ·simp;omega
    ·split
     ·simp only;omega
     ·simp;omega
   have hy2:DepAt Y N ys G2:=⟨by rw [g2 Y (by omega) (by omega) (hnb Y b1)];exact hy.blk,hy.len,hy.row⟩
   have hi2:=ih (i+1) (stepS (layF t F) s i l[i]) G2 cap2 (by omega) hs2 (by push_cast;omega) hpl2 hy2 g3 (by rw [g2 A4 l4 b4 hn4];exact hA4) g4 (fun k q=>by
    rcases g5 k q with z|z
    ·exact hcb k z
    ·omega) (by omega)
   push_cast at hi2
   have hstep:foldS (layF t F) i (l[i] :: l.drop (i+1)) s=foldS (layF t F) (i+1) (l.drop (i+1)) (stepS (layF t F) s i l[i]):=rfl
   have hany:anyBig t F (l[i] :: l.drop (i+1))=anyBig t F (l.drop (i+1)):=by unfold anyBig;rw [List.any_cons,hbg,Bool.false_or]
   rw [hstep,hany]
   refine ⟨fun h=>?_,fun h=>?_⟩
   ·obtain ⟨E',G',cap',x1,x2,x3,x4,x5,x6,x7⟩:=hi2.1 h
    refine ⟨E',G',cap',by omega,fun k hk=>by rw [x2 k hk,g2 k (by omega) (by omega) (hnb k hk)],x3,x4,x5,x6,?_⟩
    rw [Brun_loop,g6,bthen_normal,x7]
   ·obtain ⟨E',G',al,L,cap',x1,x2,x3,x4,x5⟩:=hi2.2 h
    refine ⟨E',G',al,L,cap',by omega,fun k hk=>by rw [x2 k hk,g2 k (by omega) (by omega) (hnb k hk)],x3,x4,?_⟩
    rw [Brun_loop,g6,bthen_normal,x5]
structure RecV (t:List TR) (F:Nat) (l:List Mem) (lay:LayT) (v:RowV):Prop where
 fine:v.fine=!anyBig t F l
 al:v.al=1∨v.al=2∨v.al=4
 sz:0≤v.sz∧v.sz≤10000000
 eq:anyBig t F l=false→v.sz=lay.size∧v.al=lay.align∧v.L=lay.pl
theorem pre_app2 {G H:Heap} (hl:G.length≤H.length) (h:∀ j,j<G.length→H[j]?=G[j]?):∃ Y,H=G ++ Y:=by
 refine ⟨H.drop G.length,?_⟩
 apply List.ext_getElem?
 intro j
 by_cases c:j<G.length
 ·rw [h j c,List.getElem?_append_left c]
 ·rw [List.getElem?_append_right (by omega),List.getElem?_drop]
  congr 1
  omega
theorem rec_fn (hl:l.length≤64) (hfit:∀ m ∈ l,MemFit (layF t F) m) (hN:N≤512) (hv:∀ m ∈ l,0≤m.2.1∧∃ v:RowV,ys[m.2.1.toNat]?=some v.row∧RowOKV t F m.2.1 v) (G:Heap) (hy:DepAt Y N ys G) :
  ∃ v' Z,RecV t F l (structL (layF t F) l) v'∧Ccall tab 137 [.is (memRows l) c0,.ms Y 0 N 4 N ex] G=some (.agg v'.row,G ++ Z):=by
 have uY:=(List.getElem?_eq_some_iff.1 hy.blk).1
 have hs0:=at0 (layF t F) l
 have hG4:(G ++ [Blk.cells zL,yC 1 [] .nil])[G.length]?=some (.cells zL):=by rw [List.getElem?_append_right (Nat.le_refl _),Nat.sub_self];rfl
 have hG5:(G ++ [Blk.cells zL,yC 1 [] .nil])[G.length+1]?=some (yC 1 [] .nil):=by rw [List.getElem?_append_right (by omega),Nat.add_sub_cancel_left];rfl
 obtain ⟨h1,h2⟩:=rec_loop (ex:=ex) (c0:=c0) (base:=G.length) hl hfit hN hv ⟨uY,Nat.le_refl _,Nat.le_succ _,by omega⟩ l.length 0 ⟨0,1,[]⟩ (G ++ [Blk.cells zL,yC 1 [] .nil]) .nil (by omega) hs0 (by simp) (by simp) (hy.app _) hG5 hG4 (.inl ⟨rfl,rfl⟩) (fun k q=>by cases q) (by simp)
 rw [List.drop_zero] at h1 h2
 have hpre:∀ (H:Heap),(G ++ [Blk.cells zL,yC 1 [] .nil]).length≤H.length→(∀ k,k<G.length→H[k]?=(G ++ [Blk.cells zL,yC 1 [] .nil])[k]?)→∃ Z,H=G ++ Z:=fun H q1 q2=>pre_app2 (by rw [List.length_append] at q1;omega) fun j hj=>by rw [q2 j hj,List.getElem?_append_left hj]
 cases hbg:anyBig t F l with
 | false =>
  obtain ⟨E',G',cap',x1,x2,x3,x4,x5,x6,x7⟩:=h1 hbg
  obtain ⟨st,hst⟩:∃ st,st=foldS (layF t F) 0 l ⟨0,1,[]⟩:=⟨_,rfl⟩
  have hlay:structL (layF t F) l=⟨upS (max 1 (upS st.pos 8 / 8)) st.al,st.al,st.pl⟩:=by unfold structL;rw [← hst]
  rw [← hst] at x3 x4 x5 x7
  have y1:=x3.pos
  have y2:=x3.al
  have g1:=upS_ge (n:=st.pos) (m:=8) (by omega)
  have g2:=upS_ge (n:=max 1 (upS st.pos 8 / 8)) (m:=st.al) (by omega)
  have la5:=(List.getElem?_eq_some_iff.1 x5).1
  have la4:=(List.getElem?_eq_some_iff.1 x6).1
  obtain ⟨v',hv'⟩:∃ v':RowV,v'=⟨upS (max 1 (upS st.pos 8 / 8)) st.al,st.al,st.pl,cap',true⟩:=⟨_,rfl⟩
  obtain ⟨Z,hZ⟩:=hpre ((G'.set (G.length+1) (.cells v'.row)).set G.length (.cells v'.row)) (by simpa using x1) (fun k hk=>by
   rw [List.getElem?_set_ne (by omega),List.getElem?_set_ne (by omega)];exact x2 k hk)
  refine ⟨v',Z,⟨by rw [hbg,hv'];rfl,by rw [hv'];exact y2,by rw [hv'];simp only;omega,fun _=>by rw [hv',hlay];exact ⟨rfl,rfl,rfl⟩⟩,?_⟩
  have u1:=fun h=>up149_ok h st.pos 8 (by omega) (by omega)
  have u2:=fun h=>up149_ok h (max 1 (upS st.pos 8 / 8)) st.al (by omega) (by omega)
  have td:(upS st.pos 8).tdiv 8=upS st.pos 8 / 8:=Int.tdiv_eq_ediv_of_nonneg (by omega)
  have wd:IntKind.i64.wrap (upS st.pos 8 / 8)=upS st.pos 8 / 8:=IntWalk.i64_in _ (by omega)
  have mx:(if upS st.pos 8 / 8≤1 then (1:Int) else upS st.pos 8 / 8)=max 1 (upS st.pos 8 / 8):=by split<;>omega
  refine Ccall_over rfl rfl rfl rfl ?_
  rw [← hZ]
  have gA:∀ b,(G'.set (G.length+1) b)[G.length+1]?=some b:=fun b=>by rw [List.getElem?_set,if_pos rfl,if_pos la5]
  have g4:∀ b,(G'.set (G.length+1) b)[G.length]?=some (.cells zL):=fun b=>by rw [List.getElem?_set_ne (by omega)];exact x6
  have gB:∀ b b',((G'.set (G.length+1) b).set G.length b')[G.length]?=some b':=fun b b'=>by rw [List.getElem?_set,if_pos rfl,if_pos (by simpa using la4)]
  subst hv'
  unfold RowV.row
  simp only
  unfold envR at x7
  unfold yC zL at *
  simp only [Int.natCast_zero] at x7
  have e0:plRows []=[]:=rfl
  rw [e0] at x7
  generalize plRows st.pl=PL at *
  generalize max 1 (upS st.pos 8 / 8)=mxx at *
  generalize upS mxx st.al=sz at *
  generalize upS st.pos 8=u8 at *
  clear hl hfit hv h1 h2 hbg hs0 hG4 hG5 hst hlay x1 x2 x3 x4 y1 y2 g1 g2 hZ hpre hy uY la4 la5
  repeat (any_goals first|simp -dsimp (maxSteps:=4000000) (maxDischargeDepth:=8) -implicitDefEqProofs [*,-Int.not_le,-Int.not_lt,amLt,maxI1,ap4,Nat.add_assoc]|with_reducible (first|apply cB|apply iB)<;>intro _|intro _)
 | true =>
  obtain ⟨E',G',al,L,cap',x1,x2,x3,x4,x5⟩:=h2 hbg
  obtain ⟨Z,hZ⟩:=hpre G' x1 x2
  refine ⟨⟨0,al,L,cap',false⟩,Z,⟨by rw [hbg];rfl,x3,by simp only;omega,fun h=>by rw [hbg] at h;cases h⟩,?_⟩
  refine Ccall_over rfl rfl rfl rfl ?_
  rw [← hZ]
  unfold RowV.row
  simp only
  unfold envR at x5
  unfold yC zL at *
  simp only [Int.natCast_zero] at x5
  have e0:plRows []=[]:=rfl
  rw [e0] at x5
  generalize plRows L=PL at *
  clear hl hfit hv h1 h2 hbg hs0 hG4 hG5 x1 x2 x3 hZ hpre hy uY
  repeat (any_goals first|simp -dsimp (maxSteps:=4000000) (maxDischargeDepth:=8) -implicitDefEqProofs [*,-Int.not_le,-Int.not_lt,amLt,maxI1,ap4,Nat.add_assoc]|with_reducible (first|apply cB|apply iB)<;>intro _|intro _)
end
def stepUV (s:RowV) (i:Nat) (m:Mem) (v:RowV):RowV :=
 if m.2.2=0 then { s with fine:=s.fine && v.fine }
 else ⟨if m.2.2<0 then max s.sz v.sz else max s.sz (upS m.2.2 8 / 8),if m.2.2<0∨m.1≠[] then max s.al v.al else s.al,s.L ++ [⟨i,m.2.1,0,0,max 0 m.2.2⟩],s.cap,s.fine && v.fine⟩
section
variable {Y N A4 A:Nat} {ex:Bool} {l:List Mem} {c0:Cap} {ys:List (List AV)}
def envV (Y N A4 A:Nat) (ex:Bool) (l:List Mem) (c0:Cap) (i:Int):List (Nat × AV):=[(0,.is (memRows l) c0),(1,.ms Y 0 N 4 N ex),(4,.mp A4 0),(5,.mp A 0),(6,.int .i64 i)]
theorem uni_step (s:RowV) (i:Nat) (m:Mem) (v:RowV) (G:Heap) (hl:l.length≤64) (hi:l[i]?=some m) (hw:m.2.2≤200000) (hpl:s.L.length≤64)
  (hy:DepAt Y N ys G) (hN:N≤512) (h0:0≤m.2.1) (hv:ys[m.2.1.toNat]?=some v.row) (hA:G[A]?=some (.cells s.row)) (hAY:A≠Y) (hc:CapP G (plRows s.L) s.cap) :
  ∃ G2 cap2,G.length≤G2.length∧(∀ k,k<G.length→k≠A→notCap s.cap k→G2[k]?=G[k]?)∧G2[A]?=some (.cells ({ stepUV s i m v with cap:=cap2 }:RowV).row)∧CapP G2 (plRows (stepUV s i m v).L) cap2∧(∀ k,cap2 = .tok k 5→s.cap = .tok k 5∨G.length≤k) ∧
   Brun tab 90 f138l3 (ofL (envV Y N A4 A ex l c0 i)) G=some (.normal,ofL (envV Y N A4 A ex l c0 (i+1)),G2):=by
 have hil:=(List.getElem?_eq_some_iff.1 hi).1
 have hrow:(memRows l)[i]?=some (memRow m):=by simp [memRows,hi]
 have hrow2:∀ hh:i<(memRows l).length,(memRows l)[i]=memRow m:=fun hh=>(List.getElem?_eq_some_iff.1 hrow).2
 have hml:=memRows_len l
 have h1:(i:Int)<l.length:=by omega
 have hw64:=cw64 i (by omega)
 have la:=(List.getElem?_eq_some_iff.1 hA).1
 have ly:=(List.getElem?_eq_some_iff.1 hv).1
 have hfl:=flat4_row hv hy.row
 have hfn:=flat4_len ys hy.row
 rw [hy.len] at hfn ly
 have hyx:=fun x=>rapp (X:=x) hy.blk
 have k1:m.2.1<(N:Int):=by omega
 have k2:m.2.1.toNat*4+4≤N*4:=by omega
 obtain ⟨s',hs'⟩:∃ s':RowV,s'={ s with fine:=s.fine && v.fine }:=⟨_,rfl⟩
 obtain ⟨G0,hG0⟩:∃ G0:Heap,G0=(G ++ [Blk.cells v.row]).set A (.cells s'.row):=⟨_,rfl⟩
 have lG0:G0.length=G.length+1:=by rw [hG0];simp
 have hA0:G0[A]?=some (.cells s'.row):=by rw [hG0,List.getElem?_set,if_pos rfl,if_pos (by simp;omega)]
 have h80:G0[G.length]?=some (.cells v.row):=by rw [hG0,List.getElem?_set_ne (by omega),List.getElem?_append_right (Nat.le_refl _),Nat.sub_self];rfl
 have hk0:∀ k,k<G.length→k≠A→G0[k]?=G[k]?:=fun k z1 z2=>by rw [hG0,List.getElem?_set_ne (Ne.symm z2),List.getElem?_append_left z1]
 have hy0:G0[Y]?=some (.cells ys.flatten):=by rw [hk0 Y (List.getElem?_eq_some_iff.1 hy.blk).1 (Ne.symm hAY)];exact hy.blk
 have hsL:s'.L=s.L:=by rw [hs']
 have hsC:s'.cap=s.cap:=by rw [hs']
 have hc0:CapP G0 (plRows s'.L) s'.cap:=by
  rw [hsL,hsC]
  rcases hc with hc|⟨k,q1,q2⟩
  ·exact .inl hc
  ·refine .inr ⟨k,q1,?_⟩
   rw [hk0 k (List.getElem?_eq_some_iff.1 q2).1 (fun e=>by rw [e,hA] at q2;cases q2)];exact q2
 have hAx:=fun x=>rapp (X:=x) hA
 have h8x:∀ x,(G ++ [Blk.cells v.row] ++ x)[G.length]?=some (.cells v.row):=fun x=>by rw [List.append_assoc,List.getElem?_append_right (Nat.le_refl _),Nat.sub_self];rfl
 have hPL:(plRows s'.L).length≤100:=by rw [hsL];unfold plRows;rw [List.length_map];omega
 have hrowM:(memRows l)[i]?=some [.str m.1,.int .i64 m.2.1,.int .i64 m.2.2]:=hrow
 have hap:∀ (p:PlT),plRows s'.L ++ [plRow p]=plRows (s'.L ++ [p]):=fun p=>by simp [plRows]
 have fin:∀ (P:Heap) (p:PlT) (w:RowV),w.L=s.L ++ [p]→(G0.length≤P.length∧∀ k,k<G0.length→k≠A→notCap s'.cap k→P[k]?=G0[k]?)→P[G0.length]?=some .tok→P[A]?=some (.cells [.int .i64 s'.sz,.int .i64 s'.al,.is (plRows s'.L ++ [plRow p]) (.tok G0.length 5),.bool s'.fine]) →
   G.length≤(P.set A (.cells ({ w with cap:= .tok (G.length+1) 5 }:RowV).row)).length∧(∀ k,k<G.length→k≠A→notCap s.cap k→(P.set A (.cells ({ w with cap:= .tok (G.length+1) 5 }:RowV).row))[k]?=G[k]?)∧(P.set A (.cells ({ w with cap:= .tok (G.length+1) 5 }:RowV).row))[A]?=some (.cells ({ w with cap:= .tok (G.length+1) 5 }:RowV).row) ∧
   CapP (P.set A (.cells ({ w with cap:= .tok (G.length+1) 5 }:RowV).row)) (plRows w.L) (.tok (G.length+1) 5)∧(∀ k,Cap.tok (G.length+1) 5 = .tok k 5→s.cap = .tok k 5∨G.length≤k)∧P[G.length]?=some (.cells v.row):=fun P p w hw q1 q2 q3=>by
  rw [lG0] at q1 q2
  have hn8:notCap s'.cap G.length:=fun s2 q=>by
   rcases hc0 with ⟨z,_⟩|⟨k,z1,z2⟩
   ·rw [z] at q;cases q
   ·rw [z1] at q;cases q;rw [h80] at z2;cases z2
  refine ⟨by rw [List.length_set];omega,fun k z1 z2 z3=>?_,by rw [List.getElem?_set,if_pos rfl,if_pos (by omega)],.inr ⟨G.length+1,rfl,?_⟩,fun k z=>?_,?_⟩
  ·rw [List.getElem?_set_ne (Ne.symm z2),q1.2 k (by omega) z2 (by rw [hsC];exact z3),hk0 k z1 z2]
  ·rw [List.getElem?_set_ne (by omega)];exact q2
  ·right;cases z;omega
  ·rw [q1.2 _ (by omega) (by omega) hn8];exact h80
 have hsA:∀ b,(G ++ [Blk.cells v.row]).set A b=(G ++ [Blk.cells v.row]).set A b:=fun _=>rfl
 unfold stepUV
 by_cases h00:m.2.2=0
 ·rw [if_pos h00,← hs']
  refine ⟨G0,s.cap,by omega,fun k z1 z2 z3=>hk0 k z1 z2,?_,by rw [← hsC];exact hc0,fun k z => .inl z,?_⟩
  ·rw [hA0,hs']
  ·rw [hG0]
   unfold envV
   rw [f138l3_b]
   unfold f138m3
   subst hs'
   unfold RowV.row memRow at *
   dsimp only at *
   generalize plRows s.L=PS at *
   generalize plRows v.L=PV at *
   generalize ACode.region true f138r8 [0,1,4,5,6,7,8] 1=rg at *
   obtain ⟨nm,ty,bits⟩:=m
   dsimp only at *
   subst h00
   generalize memRows l=X at *
   generalize ys.flatten=YF at *
   obtain ⟨vs,va,vL,vc,vf⟩:=v
   obtain ⟨ss,sa,sL,sc,sf⟩:=s
   dsimp only at *
   clear hi hpl hA hc hil fin hc0 hy hv ly hl hrowM hw hap hG0 lG0 hA0 h80 hk0 hy0 hPL la hsA hsL hsC h8x
   cases sf<;>cases vf
   ·repeat (any_goals first|simp -dsimp (maxSteps:=4000000) (maxDischargeDepth:=8) -implicitDefEqProofs [*,-Int.not_le,-Int.not_lt,amLt,maxI1,ap4]|with_reducible (first|apply cB|apply iB)<;>intro _|intro _)
   ·repeat (any_goals first|simp -dsimp (maxSteps:=4000000) (maxDischargeDepth:=8) -implicitDefEqProofs [*,-Int.not_le,-Int.not_lt,amLt,maxI1,ap4]|with_reducible (first|apply cB|apply iB)<;>intro _|intro _)
   ·repeat (any_goals first|simp -dsimp (maxSteps:=4000000) (maxDischargeDepth:=8) -implicitDefEqProofs [*,-Int.not_le,-Int.not_lt,amLt,maxI1,ap4]|with_reducible (first|apply cB|apply iB)<;>intro _|intro _)
   ·repeat (any_goals first|simp -dsimp (maxSteps:=4000000) (maxDischargeDepth:=8) -implicitDefEqProofs [*,-Int.not_le,-Int.not_lt,amLt,maxI1,ap4]|with_reducible (first|apply cB|apply iB)<;>intro _|intro _)
 ·rw [if_neg h00]
  obtain ⟨b,hbd⟩:∃ b,b=max 0 m.2.2:=⟨_,rfl⟩
  obtain ⟨P,p1,p2,p3,p4⟩:=q8_ok G0 A (plRows s'.L) s'.cap (memRows l) c0 (.ms Y 0 N 4 N ex) (.mp A4 0) (.mp G.length 0) m.2.2 i m.2.1 b i (.str m.1) (.int .i64 m.2.2) [(37,.bool false)] (.int .i64 s'.sz) (.int .i64 s'.al) (.bool s'.fine) hA0 hc0 hPL rfl rfl rfl rfl hrowM (by rw [hbd];split<;>omega) (by rw [hbd];split<;>omega)
  have hpr:plRows s'.L ++ [[.int .i64 i,.int .i64 m.2.1,.int .i64 0,.int .i64 0,.int .i64 b]]=plRows (s.L ++ [⟨i,m.2.1,0,0,b⟩]):=by rw [← hsL,← hap];rfl
  obtain ⟨w,hwd⟩:∃ w:RowV,w=⟨if m.2.2<0 then max s.sz v.sz else max s.sz (upS m.2.2 8 / 8),if m.2.2<0∨m.1≠[] then max s.al v.al else s.al,s.L ++ [⟨i,m.2.1,0,0,max 0 m.2.2⟩],s.cap,s.fine && v.fine⟩:=⟨_,rfl⟩
  rw [← hwd]
  have hwL:w.L=s.L ++ [⟨i,m.2.1,0,0,b⟩]:=by rw [hwd,hbd]
  obtain ⟨f1,f2,f3,f4,f5,f6⟩:=fin P ⟨i,m.2.1,0,0,b⟩ w hwL p1 p3 p2
  refine ⟨_,.tok (G.length+1) 5,f1,f2,f3,f4,f5,?_⟩
  have lPA:=(List.getElem?_eq_some_iff.1 p2).1
  have gP:∀ x,(P.set A x)[A]?=some x:=fun x=>by rw [List.getElem?_set,if_pos rfl,if_pos lPA]
  have sP:∀ x y,(P.set A x).set A y=P.set A y:=fun x y=>List.set_set ..
  have g8:∀ x,(P.set A x)[G.length]?=some (.cells v.row):=fun x=>by rw [List.getElem?_set_ne (by omega)];exact f6
  have hu:0<m.2.2→∀ h,Ccall tab 149 [.int .i64 m.2.2,.int .i64 8] h=some (.int .i64 (upS m.2.2 8),h):=fun q h=>up149_ok h m.2.2 8 (by omega) (by omega)
  have hu2:0<m.2.2→(upS m.2.2 8).tdiv 8=upS m.2.2 8 / 8∧IntKind.i64.wrap (upS m.2.2 8 / 8)=upS m.2.2 8 / 8:=fun q=>by
   have g:=upS_ge (n:=m.2.2) (m:=8) (by omega)
   exact ⟨Int.tdiv_eq_ediv_of_nonneg (by omega),IntWalk.i64_in _ (by omega)⟩
  rw [hpr,lG0] at p2
  rw [hG0] at p4
  unfold envV
  rw [f138l3_b]
  unfold f138m3
  subst hwd hs'
  unfold RowV.row memRow at *
  dsimp only at *
  rw [← hbd]
  generalize plRows (s.L ++ [⟨i,m.2.1,0,0,b⟩])=PL at *
  generalize plRows s.L=PS at *
  generalize plRows v.L=PV at *
  generalize ACode.region true f138r8 [0,1,4,5,6,7,8] 1=rg at *
  generalize upS m.2.2 8 / 8=uu at *
  obtain ⟨nm,ty,bits⟩:=m
  dsimp only at *
  generalize upS bits 8=ub at *
  generalize memRows l=X at *
  generalize ys.flatten=YF at *
  obtain ⟨vs,va,vL,vc,vf⟩:=v
  obtain ⟨ss,sa,sL,sc,sf⟩:=s
  dsimp only at *
  clear hi hpl hA hc hil fin hc0 hy hv ly hl hrowM hw hap hG0 lG0 hA0 h80 hk0 hy0 hPL la hsA hsL hsC h8x p1 p3 f1 f2 f3 f4 f5 hpr hwL hbd lPA
  by_cases cb:bits<0
  ·clear hu hu2
   cases sf<;>cases vf
   ·simp only [Bool.and_self,Bool.and_false,Bool.and_true] at p2 p4
    repeat (any_goals first|simp -dsimp (maxSteps:=4000000) (maxDischargeDepth:=8) -implicitDefEqProofs [*,-Int.not_le,-Int.not_lt,amLt,maxI1,ap4]|with_reducible (first|apply cB|apply iB)<;>intro _|intro _)
   ·simp only [Bool.and_self,Bool.and_false,Bool.and_true] at p2 p4
    repeat (any_goals first|simp -dsimp (maxSteps:=4000000) (maxDischargeDepth:=8) -implicitDefEqProofs [*,-Int.not_le,-Int.not_lt,amLt,maxI1,ap4]|with_reducible (first|apply cB|apply iB)<;>intro _|intro _)
   ·simp only [Bool.and_self,Bool.and_false,Bool.and_true] at p2 p4
    repeat (any_goals first|simp -dsimp (maxSteps:=4000000) (maxDischargeDepth:=8) -implicitDefEqProofs [*,-Int.not_le,-Int.not_lt,amLt,maxI1,ap4]|with_reducible (first|apply cB|apply iB)<;>intro _|intro _)
   ·simp only [Bool.and_self,Bool.and_false,Bool.and_true] at p2 p4
    repeat (any_goals first|simp -dsimp (maxSteps:=4000000) (maxDischargeDepth:=8) -implicitDefEqProofs [*,-Int.not_le,-Int.not_lt,amLt,maxI1,ap4]|with_reducible (first|apply cB|apply iB)<;>intro _|intro _)
  ·have hu':=hu (by omega)
   obtain ⟨hu3,hu4⟩:=hu2 (by omega)
   clear hu hu2
   by_cases cn:nm=[]
   ·subst cn
    cases sf<;>cases vf
    ·simp only [Bool.and_self,Bool.and_false,Bool.and_true] at p2 p4
     repeat (any_goals first|simp -dsimp (maxSteps:=4000000) (maxDischargeDepth:=8) -implicitDefEqProofs [*,-Int.not_le,-Int.not_lt,amLt,maxI1,ap4]|with_reducible (first|apply cB|apply iB)<;>intro _|intro _)
    ·simp only [Bool.and_self,Bool.and_false,Bool.and_true] at p2 p4
     repeat (any_goals first|simp -dsimp (maxSteps:=4000000) (maxDischargeDepth:=8) -implicitDefEqProofs [*,-Int.not_le,-Int.not_lt,amLt,maxI1,ap4]|with_reducible (first|apply cB|apply iB)<;>intro _|intro _)
    ·simp only [Bool.and_self,Bool.and_false,Bool.and_true] at p2 p4
     repeat (any_goals first|simp -dsimp (maxSteps:=4000000) (maxDischargeDepth:=8) -implicitDefEqProofs [*,-Int.not_le,-Int.not_lt,amLt,maxI1,ap4]|with_reducible (first|apply cB|apply iB)<;>intro _|intro _)
    ·simp only [Bool.and_self,Bool.and_false,Bool.and_true] at p2 p4
     repeat (any_goals first|simp -dsimp (maxSteps:=4000000) (maxDischargeDepth:=8) -implicitDefEqProofs [*,-Int.not_le,-Int.not_lt,amLt,maxI1,ap4]|with_reducible (first|apply cB|apply iB)<;>intro _|intro _)
   ·cases sf<;>cases vf
    ·simp only [Bool.and_self,Bool.and_false,Bool.and_true] at p2 p4
     repeat (any_goals first|simp -dsimp (maxSteps:=4000000) (maxDischargeDepth:=8) -implicitDefEqProofs [*,-Int.not_le,-Int.not_lt,amLt,maxI1,ap4]|with_reducible (first|apply cB|apply iB)<;>intro _|intro _)
    ·simp only [Bool.and_self,Bool.and_false,Bool.and_true] at p2 p4
     repeat (any_goals first|simp -dsimp (maxSteps:=4000000) (maxDischargeDepth:=8) -implicitDefEqProofs [*,-Int.not_le,-Int.not_lt,amLt,maxI1,ap4]|with_reducible (first|apply cB|apply iB)<;>intro _|intro _)
    ·simp only [Bool.and_self,Bool.and_false,Bool.and_true] at p2 p4
     repeat (any_goals first|simp -dsimp (maxSteps:=4000000) (maxDischargeDepth:=8) -implicitDefEqProofs [*,-Int.not_le,-Int.not_lt,amLt,maxI1,ap4]|with_reducible (first|apply cB|apply iB)<;>intro _|intro _)
    ·simp only [Bool.and_self,Bool.and_false,Bool.and_true] at p2 p4
     repeat (any_goals first|simp -dsimp (maxSteps:=4000000) (maxDischargeDepth:=8) -implicitDefEqProofs [*,-Int.not_le,-Int.not_lt,amLt,maxI1,ap4]|with_reducible (first|apply cB|apply iB)<;>intro _|intro _)
end
section
variable {t:List TR} {F Y N A4 A base:Nat} {ex:Bool} {l:List Mem} {c0:Cap} {ys:List (List AV)}
def SimU (s:RowV) (u:LayT):Prop:=s.fine=true→s.sz=u.size∧s.al=u.align∧s.L=u.pl
theorem uni_loop (hl:l.length≤64) (hfit:∀ m ∈ l,MemFit (layF t F) m) (hN:N≤512) (hv:∀ m ∈ l,0≤m.2.1∧∃ v:RowV,ys[m.2.1.toNat]?=some v.row∧RowOKV t F m.2.1 v) (hb:Y<base∧base≤A4∧base≤A∧A4≠A):∀ (n i:Nat) (s:RowV) (u:LayT) (G:Heap),i+n=l.length→(s.al=1∨s.al=2∨s.al=4)→1≤s.sz∧s.sz≤20000→SimU s u→s.L.length≤i→DepAt Y N ys G→G[A]?=some (.cells s.row)→G[A4]?=some (.cells zL)→CapP G (plRows s.L) s.cap→(∀ k,s.cap = .tok k 5→base≤k)→base≤G.length →
  ∃ E' G' s',G.length≤G'.length∧(∀ k,k<base→G'[k]?=G[k]?)∧(s'.al=1∨s'.al=2∨s'.al=4)∧(1≤s'.sz∧s'.sz≤20000)∧s'.fine=(s.fine && !anyBig t F (l.drop i))∧SimU s' (foldU (layF t F) i (l.drop i) u)∧G'[A]?=some (.cells s'.row)∧G'[A4]?=some (.cells zL) ∧
   Brun tab 90 (.loop f138l3) (ofL (envV Y N A4 A ex l c0 i)) G=some (.exit 0,ofL ((0,.is (memRows l) c0) :: (1,.ms Y 0 N 4 N ex) :: (4,.mp A4 0) :: (5,.mp A 0) :: E'),G'):=by
 obtain ⟨b1,b2,b3,b4⟩:=hb
 have hml:=memRows_len l
 intro n
 induction n with
 | zero =>
  intro i s u G hi hal hsz hsu hpl hy hA hA4 hc hcb hGb
  have e:l.drop i=[]:=List.drop_eq_nil_of_le (by omega)
  rw [e]
  refine ⟨[(6,.int .i64 i),(13,.bool false)],G,s,Nat.le_refl _,fun _ _=>rfl,hal,hsz,by simp [anyBig],hsu,hA,hA4,?_⟩
  have q1:¬ (i:Int)<l.length:=by omega
  have q2:(l.length:Int)≤i:=by omega
  unfold envV
  rw [Brun_loop,f138l3_b]
  unfold f138m3
  generalize memRows l=X at *
  clear hfit hv hsu hpl hy hA hA4 hc hcb hGb hi e hal hsz
  repeat (any_goals first|simp -dsimp (maxSteps:=4000000) (maxDischargeDepth:=8) -implicitDefEqProofs [*,-Int.not_le,-Int.not_lt,amLt]|with_reducible (first|apply cB|apply iB)<;>intro _|intro _)
 | succ n ih =>
  intro i s u G hi hal hsz hsu hpl hy hA hA4 hc hcb hGb
  have hil:i<l.length:=by omega
  have hm0:=List.getElem?_eq_getElem hil
  have hmm:=List.getElem_mem hil
  rw [List.drop_eq_getElem_cons hil]
  obtain ⟨m0,v,hv1,hv2⟩:=hv _ hmm
  have hft:=hfit _ hmm
  have hfe:=hft.fine
  have x1:=hfe.lo
  have x2:=hfe.hi
  have hwd:l[i].2.2≤200000:=by
   by_cases c:0≤l[i].2.2
   ·have:=(hft.word c).2;omega
   ·omega
  obtain ⟨G2,cap2,g1,g2,g3,g4,g5,g6⟩:=uni_step (A4:=A4) (ex:=ex) (c0:=c0) s i l[i] v G hl hm0 hwd (by omega) hy hN m0 hv1 hA (by omega) hc
  have hnb:∀ k,k<base→notCap s.cap k:=fun k hk s' q=>by
   rcases hc with ⟨z,_⟩|⟨k',z1,z2⟩
   ·rw [z] at q;cases q
   ·have:=hcb k' z1
    rw [z1] at q;cases q;omega
  have hn4:notCap s.cap A4:=fun s' q=>by
   rcases hc with ⟨z,_⟩|⟨k',z1,z2⟩
   ·rw [z] at q;cases q
   ·rw [z1] at q;cases q;rw [hA4] at z2;cases z2
  have l4:=(List.getElem?_eq_some_iff.1 hA4).1
  have hval:=hv2.al
  have hvsz:=hv2.sz
  have hup:0<l[i].2.2→upS l[i].2.2 8<l[i].2.2+8:=fun q=>(upS_ge (n:=l[i].2.2) (m:=8) (by omega)).2
  have hbit:0<l[i].2.2→l[i].2.2≤131080:=fun q=>by have:=(hft.word (by omega)).2;omega
  obtain ⟨s2,hs2⟩:∃ s2:RowV,s2={ stepUV s i l[i] v with cap:=cap2 }:=⟨_,rfl⟩
  rw [← hs2] at g3
  have e1:s2.al=1∨s2.al=2∨s2.al=4:=by
   rw [hs2]
   unfold stepUV
   split
   ·exact hal
   ·dsimp only
    split
    ·exact max124 hal hval
    ·exact hal
  have e2:1≤s2.sz∧s2.sz≤20000:=by
   rw [hs2]
   unfold stepUV
   split
   ·exact hsz
   ·dsimp only
    split
    ·omega
    ·have:=hup (by omega)
     have:=hbit (by omega)
     omega
  have e3:s2.fine=(s.fine && v.fine):=by rw [hs2];unfold stepUV;split<;>rfl
  have e4:s2.L.length≤i+1:=by
   rw [hs2]
   unfold stepUV
   split
   ·dsimp only;omega
   ·simp;omega
  have e5:SimU s2 (stepU (layF t F) u i l[i]):=by
   intro hfine
   rw [e3] at hfine
   simp only [Bool.and_eq_true] at hfine
   obtain ⟨f1,f2⟩:=hfine
   obtain ⟨y1,y2,y3⟩:=hsu f1
   have hbg:bigF t F l[i].2.1=false:=by
    have:=hv2.fine
    rw [f2] at this
    simpa using this.symm
   obtain ⟨v1,v2,_⟩:=hv2.eq hbg
   rw [hs2]
   unfold stepUV stepU
   dsimp only
   by_cases c1:l[i].2.2<0
   ·rw [if_neg (by omega),if_pos c1,if_pos c1,if_pos (.inl c1)]
    simp only [y1,y2,y3,v1,v2,true_and]
    rw [show max 0 l[i].2.2=0 by omega]
   ·rw [if_neg c1,if_neg c1]
    by_cases c2:l[i].2.2=0
    ·rw [if_pos c2,if_pos c2]
     exact ⟨y1,y2,y3⟩
    ·rw [if_neg c2,if_neg c2]
     have hw:=(hft.word (by omega)).1
     simp only [y1,y2,y3,v2,hw,true_and,c1,false_or]
     rw [show max 0 l[i].2.2=l[i].2.2 by omega]
  have hy2:DepAt Y N ys G2:=⟨by rw [g2 Y (by omega) (by omega) (hnb Y b1)];exact hy.blk,hy.len,hy.row⟩
  have hcap:s2.cap=cap2:=by rw [hs2]
  have hL:(stepUV s i l[i] v).L=s2.L:=by rw [hs2]
  rw [hL] at g4
  obtain ⟨E',G',s',z1,z2,z3,z4,z5,z6,z7,z8,z9⟩:=ih (i+1) s2 _ G2 (by omega) e1 e2 e5 e4 hy2 g3 (by rw [g2 A4 l4 b4 hn4];exact hA4) (by rw [hcap];exact g4) (fun k q=>by
   rw [hcap] at q
   rcases g5 k q with z|z
   ·exact hcb k z
   ·omega) (by omega)
  push_cast at z9
  refine ⟨E',G',s',by omega,fun k hk=>by rw [z2 k hk,g2 k (by omega) (by omega) (hnb k hk)],z3,z4,?_,z6,z7,z8,?_⟩
  ·rw [z5,e3,hv2.fine]
   unfold anyBig
   rw [List.any_cons,Bool.not_or,Bool.and_assoc]
  ·rw [Brun_loop,g6,bthen_normal,z9]
theorem uni_fn (hl:l.length≤64) (hfit:∀ m ∈ l,MemFit (layF t F) m) (hN:N≤512) (hv:∀ m ∈ l,0≤m.2.1∧∃ v:RowV,ys[m.2.1.toNat]?=some v.row∧RowOKV t F m.2.1 v) (G:Heap) (hy:DepAt Y N ys G) :
  ∃ v' Z,RecV t F l (unionL (layF t F) l) v'∧Ccall tab 138 [.is (memRows l) c0,.ms Y 0 N 4 N ex] G=some (.agg v'.row,G ++ Z):=by
 have uY:=(List.getElem?_eq_some_iff.1 hy.blk).1
 obtain ⟨s0,hs0⟩:∃ s0:RowV,s0=⟨1,1,[],.nil,true⟩:=⟨_,rfl⟩
 have hG4:(G ++ [Blk.cells zL,.cells s0.row])[G.length]?=some (.cells zL):=by rw [List.getElem?_append_right (Nat.le_refl _),Nat.sub_self];rfl
 have hG5:(G ++ [Blk.cells zL,.cells s0.row])[G.length+1]?=some (.cells s0.row):=by rw [List.getElem?_append_right (by omega),Nat.add_sub_cancel_left];rfl
 obtain ⟨E',G',s',z1,z2,z3,z4,z5,z6,z7,z8,z9⟩:=uni_loop (ex:=ex) (c0:=c0) (base:=G.length) hl hfit hN hv ⟨uY,Nat.le_refl _,Nat.le_succ _,by omega⟩ l.length 0 s0 ⟨1,1,[]⟩ (G ++ [Blk.cells zL,.cells s0.row]) (by omega) (by rw [hs0];exact .inl rfl) (by rw [hs0];simp) (by intro _;rw [hs0];exact ⟨rfl,rfl,rfl⟩) (by rw [hs0];simp) (hy.app _) hG5 hG4 (by rw [hs0];exact .inl ⟨rfl,rfl⟩) (fun k q=>by rw [hs0] at q;cases q) (by simp)
 rw [List.drop_zero] at z5 z6
 have g:=upS_ge (n:=s'.sz) (m:=s'.al) (by omega)
 have la5:=(List.getElem?_eq_some_iff.1 z7).1
 have la4:=(List.getElem?_eq_some_iff.1 z8).1
 obtain ⟨v',hv'⟩:∃ v':RowV,v'=⟨upS s'.sz s'.al,s'.al,s'.L,s'.cap,s'.fine⟩:=⟨_,rfl⟩
 obtain ⟨Z,hZ⟩:=pre_app2 (G:=G) (H:=(G'.set (G.length+1) (.cells v'.row)).set G.length (.cells v'.row)) (by rw [List.length_append] at z1;simp only [List.length_set];omega) (fun k hk=>by
  rw [List.getElem?_set_ne (by omega),List.getElem?_set_ne (by omega),z2 k hk,List.getElem?_append_left hk])
 have hf0:s0.fine=true:=by rw [hs0]
 rw [hf0,Bool.true_and] at z5
 refine ⟨v',Z,⟨by rw [hv'];exact z5,by rw [hv'];exact z3,by rw [hv'];simp only;omega,fun h=>?_⟩,?_⟩
 ·obtain ⟨y1,y2,y3⟩:=z6 (by rw [z5,h];rfl)
  rw [hv']
  unfold unionL
  simp only
  rw [y1,y2]
  exact ⟨rfl,rfl,y3⟩
 ·have u1:=fun h=>up149_ok h s'.sz s'.al (by omega) (by omega)
  refine Ccall_over rfl rfl rfl rfl ?_
  rw [← hZ]
  have gA:∀ b,(G'.set (G.length+1) b)[G.length+1]?=some b:=fun b=>by rw [List.getElem?_set,if_pos rfl,if_pos la5]
  have g4:∀ b,(G'.set (G.length+1) b)[G.length]?=some (.cells zL):=fun b=>by rw [List.getElem?_set_ne (by omega)];exact z8
  have gB:∀ b b',((G'.set (G.length+1) b).set G.length b')[G.length]?=some b':=fun b b'=>by rw [List.getElem?_set,if_pos rfl,if_pos (by simpa using la4)]
  subst hv' hs0
  unfold envV at z9
  unfold RowV.row zL at *
  dsimp only at *
  have e0:plRows []=[]:=rfl
  rw [e0] at z9
  simp only [Int.natCast_zero] at z9
  generalize plRows s'.L=PL at *
  generalize upS s'.sz s'.al=up at *
  obtain ⟨ss,sa,sL,sc,sf⟩:=s'
  dsimp only at *
  clear hl hfit hv z1 z2 z3 z4 z5 z6 g la5 la4 hZ hG4 hG5 uY hy hf0
  repeat (any_goals first|simp -dsimp (maxSteps:=4000000) (maxDischargeDepth:=8) -implicitDefEqProofs [*,-Int.not_le,-Int.not_lt,amLt,ap4,Nat.add_assoc]|with_reducible (first|apply cB|apply iB)<;>intro _|intro _)
end
section
variable {t:List TR} {rho:Nat→Nat} {F Y N S cs:Nat} {ex e2:Bool} {ys:List (List AV)} {ok:List Bool}
theorem ready_ok (r:TR) (c1:Cap) (G:Heap) (hS:G[S]?=some (.cells (bcells ok))) (hok:ok.length=N) (hN:N≤512) (hml:r.mem.length≤64) (h14:r.kind=14→r.mem=[]∧0≤r.elem∧r.elem<N) (hdm:∀ m ∈ r.mem,0≤m.2.1∧m.2.1<N) :
  Ccall tab 129 [.agg (trow r),.ms S 0 N 1 cs e2] G=some (.bool ((deps r).all (okD ok)),G):=by
 have cl:(bcells ok).length=N:=by unfold bcells;rw [List.length_map];exact hok
 have cg:∀ d:Int,0≤d→d<N→(bcells ok)[d.toNat]?=some (.bool (okD ok d)):=fun d h0 h1=>by
  unfold bcells okD
  rw [List.getElem?_map,List.getD_eq_getElem?_getD,List.getElem?_eq_getElem (by omega)]
  rfl
 by_cases k14:r.kind=14
 ·obtain ⟨q1,q2,q3⟩:=h14 k14
  have hd:(deps r).all (okD ok)=okD ok r.elem:=by unfold deps;rw [if_pos k14,q1];simp
  rw [hd]
  have c1:=cg r.elem q2 q3
  have c2:∀ hh,(bcells ok)[r.elem.toNat]'hh=_:=fun hh=>(List.getElem?_eq_some_iff.1 c1).2
  have b1:r.elem.toNat+1≤N:=by omega
  have b2:r.elem.toNat<N:=by omega
  refine Ccall_over rfl rfl rfl rfl ?_
  unfold trow
  rw [q1]
  generalize okD ok r.elem=b at *
  generalize bcells ok=BC at *
  obtain ⟨kind,elem,len,tag,mem,done_,cp⟩:=r
  dsimp only at *
  subst k14 q1
  have em:memRows []=[]:=rfl
  clear h14 hdm cg hok hd
  repeat (any_goals first|simp -dsimp (maxSteps:=4000000) (maxDischargeDepth:=8) -implicitDefEqProofs [*,-Int.not_le,-Int.not_lt,amLt]|with_reducible (first|apply cB|apply iB)<;>intro _|intro _)
 ·have key:∀ (n i:Nat),i+n=r.mem.length→∃ E',Brun tab 31 (.loop f129l4) (ofL [(1,.ms S 0 N 1 cs e2),(2,.ip [.int .i64 r.kind,.int .i64 r.elem,.int .i64 r.len,.str r.tag,.is (memRows r.mem) .no,.bool r.done] 0),(5,.int .i64 i)]) G =
    some (if (r.mem.drop i).all (fun m=>okD ok m.2.1)=true then .exit 0 else .ret,ofL (if (r.mem.drop i).all (fun m=>okD ok m.2.1)=true then E' else [(4,.bool false)]),G):=by
   have hml2:=memRows_len r.mem
   intro n
   induction n with
   | zero =>
    intro i hi
    have e:r.mem.drop i=[]:=List.drop_eq_nil_of_le (by omega)
    rw [e]
    simp only [List.all_nil,if_true]
    refine ⟨[(1,.ms S 0 N 1 cs e2),(2,.ip [.int .i64 r.kind,.int .i64 r.elem,.int .i64 r.len,.str r.tag,.is (memRows r.mem) .no,.bool r.done] 0),(5,.int .i64 i),(18,.bool false)],?_⟩
    have q1:¬ (i:Int)<r.mem.length:=by omega
    have q2:(r.mem.length:Int)≤i:=by omega
    rw [Brun_loop,f129l4_b]
    unfold f129m4
    generalize memRows r.mem=X at *
    clear hS hok hN hml h14 hdm cg hi e k14
    repeat (any_goals first|simp -dsimp (maxSteps:=4000000) (maxDischargeDepth:=8) -implicitDefEqProofs [*,-Int.not_le,-Int.not_lt,amLt]|with_reducible (first|apply cB|apply iB)<;>intro _|intro _)
   | succ n ih =>
    intro i hi
    have hil:i<r.mem.length:=by omega
    have hm0:=List.getElem?_eq_getElem hil
    obtain ⟨d0,d1⟩:=hdm _ (List.getElem_mem hil)
    obtain ⟨E',h⟩:=ih (i+1) (by omega)
    rw [List.drop_eq_getElem_cons hil,List.all_cons]
    have hrow:(memRows r.mem)[i]?=some (memRow r.mem[i]):=by simp [memRows,hm0]
    have hrow2:∀ hh:i<(memRows r.mem).length,(memRows r.mem)[i]=memRow r.mem[i]:=fun hh=>(List.getElem?_eq_some_iff.1 hrow).2
    have g1:=cg _ d0 d1
    have q1:(i:Int)<r.mem.length:=by omega
    have w1:IntKind.i64.wrap ((i:Int)+1)=(i:Int)+1:=IntWalk.i64_in _ (by omega)
    have b1:r.mem[i].2.1.toNat+1≤N:=by omega
    have b2:r.mem[i].2.1.toNat<N:=by omega
    push_cast at h
    cases hb:okD ok r.mem[i].2.1 with
    | true =>
     rw [hb] at g1
     have g2:=(List.getElem?_eq_some_iff.1 g1).2
     simp only [Bool.true_and]
     refine ⟨E',?_⟩
     rw [← h,Brun_loop]
     generalize Brun tab 31 (.loop f129l4)=L at *
     rw [f129l4_b]
     unfold f129m4
     unfold memRow at *
     clear h ih hb hm0 hdm
     generalize r.mem[i]=mi at *
     generalize memRows r.mem=X at *
     generalize bcells ok=BC at *
     clear hok hN hml h14 cg hi k14
     repeat (any_goals first|simp -dsimp (maxSteps:=4000000) (maxDischargeDepth:=8) -implicitDefEqProofs [*,-Int.not_le,-Int.not_lt,amLt]|with_reducible (first|apply cB|apply iB)<;>intro _|intro _)
    | false =>
     rw [hb] at g1
     have g2:=(List.getElem?_eq_some_iff.1 g1).2
     simp only [Bool.false_and,Bool.false_eq_true,if_false]
     refine ⟨[],?_⟩
     rw [Brun_loop]
     rw [f129l4_b]
     unfold f129m4
     unfold memRow at *
     clear h ih hb hm0 hdm
     generalize r.mem[i]=mi at *
     generalize memRows r.mem=X at *
     generalize bcells ok=BC at *
     clear hok hN hml h14 cg hi k14
     repeat (any_goals first|simp -dsimp (maxSteps:=4000000) (maxDischargeDepth:=8) -implicitDefEqProofs [*,-Int.not_le,-Int.not_lt,amLt]|with_reducible (first|apply cB|apply iB)<;>intro _|intro _)
  have hd:(deps r).all (okD ok)=r.mem.all (fun m=>okD ok m.2.1):=by unfold deps;rw [if_neg k14,List.nil_append,List.all_map];rfl
  rw [hd]
  obtain ⟨E',h⟩:=key r.mem.length 0 (by omega)
  rw [List.drop_zero] at h
  simp only [Int.natCast_zero] at h
  have hst:strip.stripL [.int .i64 r.kind,.int .i64 r.elem,.int .i64 r.len,.str r.tag,.is (memRows r.mem) r.cap,.bool r.done]=[.int .i64 r.kind,.int .i64 r.elem,.int .i64 r.len,.str r.tag,.is (memRows r.mem) .no,.bool r.done]:=rfl
  refine Ccall_over rfl rfl rfl rfl ?_
  unfold trow
  generalize memRows r.mem=X at *
  clear key hS hok hN hml h14 hdm cg hd cl
  cases hb:r.mem.all (fun m=>okD ok m.2.1) with
  | true =>
   rw [hb] at h
   simp only [if_true] at h
   clear hb
   repeat (any_goals first|simp -dsimp (maxSteps:=4000000) (maxDischargeDepth:=8) -implicitDefEqProofs [*,-Int.not_le,-Int.not_lt,amLt]|with_reducible (first|apply cB|apply iB)<;>intro _|intro _)
  | false =>
   rw [hb] at h
   simp only [Bool.false_eq_true,if_false] at h
   clear hb
   repeat (any_goals first|simp -dsimp (maxSteps:=4000000) (maxDischargeDepth:=8) -implicitDefEqProofs [*,-Int.not_le,-Int.not_lt,amLt]|with_reducible (first|apply cB|apply iB)<;>intro _|intro _)
end
section
variable {t:List TR} {rho:Nat→Nat} {F Y N:Nat} {ex:Bool} {ys:List (List AV)}
def ofV (sz al:Int) (L:List PlT) (cap:Cap) (fine:Bool):RowV:=⟨if (fine && decide (sz≤16384))=true then sz else 0,al,L,cap,fine && decide (sz≤16384)⟩
theorem of_val (hx:Tbl t rho F) {id:Int} {r:TR} (hg:getT t id=some r) (sz al:Int) (L:List PlT) (cap:Cap) (fine:Bool) (hf:fine=!((deps r).any (bigF t F))) (hal:al=1∨al=2∨al=4) (hsz:0≤sz) (he:fine=true→sz=(rawL (layF t F) r).size∧al=(rawL (layF t F) r).align∧L=(rawL (layF t F) r).pl):RowOKV t F id (ofV sz al L cap fine):=by
 obtain ⟨e1,e2⟩:=lay_eq hx.rank hx.hF hg
 unfold ofV
 cases hfine:fine with
 | false =>
  rw [hfine] at hf
  have hd:(deps r).any (bigF t F)=true:=by simpa using hf.symm
  rw [hd,Bool.or_true] at e2
  exact ⟨by rw [e2];rfl,hal,by simp,fun h=>by rw [e2] at h;cases h⟩
 | true =>
  rw [hfine] at hf
  have hd:(deps r).any (bigF t F)=false:=by simpa using hf.symm
  obtain ⟨y1,y2,y3⟩:=he hfine
  rw [hd,Bool.or_false,← y1] at e2
  simp only [Bool.true_and,decide_eq_true_eq]
  refine ⟨?_,hal,?_,fun h=>?_⟩
  ·rw [e2]
   by_cases c:sz≤16384
   ·simp [c]
   ·simp [c];omega
  ·simp only
   by_cases c:sz≤16384
   ·rw [if_pos c];omega
   ·rw [if_neg c];omega
  ·rw [h] at e2
   have c:sz≤16384:=by
    have:=e2.symm
    simp only [decide_eq_false_iff_not] at this
    omega
   simp only
   rw [if_pos c,e1]
   unfold capL
   rw [if_neg (by omega)]
   exact ⟨y1,y2,y3⟩
theorem of_ok (hx:Tbl t rho F) {id:Int} {r:TR} (hg:getT t id=some r) (hw:wholeS t id=true) (hN:N≤512) (hv:∀ d ∈ deps r,0≤d∧∃ v:RowV,ys[d.toNat]?=some v.row∧RowOKV t F d v) (G:Heap) (hy:DepAt Y N ys G) :
  ∃ v Z,RowOKV t F id v∧Ccall tab 130 [.agg (trow r),.ms Y 0 N 4 N ex] G=some (.agg v.row,G ++ Z):=by
 obtain ⟨_,gi⟩:=getT_some hg
 have hmem:=List.mem_of_getElem? gi
 obtain ⟨k1,k16,klen,kdone,kmem⟩:=acc_kind hx.acc gi
 have hst:∀ c,strip.stripL [.int .i64 r.kind,.int .i64 r.elem,.int .i64 r.len,.str r.tag,.is (memRows r.mem) c,.bool r.done]=[.int .i64 r.kind,.int .i64 r.elem,.int .i64 r.len,.str r.tag,.is (memRows r.mem) .no,.bool r.done]:=fun c=>rfl
 by_cases k14:r.kind=14
 ·have hd0:r.done=false:=by
   cases hq:r.done with
   | false=>rfl
   | true=>have:=kdone hq;omega
  have hm0:=kmem hd0
  have hdeps:deps r=[r.elem]:=by unfold deps;rw [if_pos k14,hm0];rfl
  rw [hdeps] at hv
  obtain ⟨m0,e,hv1,hv2⟩:=hv r.elem (by simp)
  have hlen:1≤r.len∧r.len≤16384:=by
   have hlen14:=klen k14
   unfold longS at hlen14
   simp only [decide_eq_true_eq] at hlen14
   unfold wholeS at hw
   rw [hg] at hw
   dsimp only at hw
   unfold wholeR at hw
   rw [if_neg (by omega),if_pos k14] at hw
   simp only [decide_eq_true_eq] at hw
   omega
  have es:=hv2.sz
  have p1:r.len*e.sz≤16384*16384:=Int.mul_le_mul hlen.2 es.2 (by omega) (by omega)
  have p0:0≤r.len*e.sz:=Int.mul_nonneg (by omega) (by omega)
  have wl:IntKind.i64.wrap (r.len*e.sz)=r.len*e.sz:=IntWalk.i64_in _ (by omega)
  have ly:=(List.getElem?_eq_some_iff.1 hv1).1
  have hfl:=flat4_row hv1 hy.row
  have hfn:=flat4_len ys hy.row
  rw [hy.len] at hfn ly
  have hyx:=fun x=>rapp (X:=x) hy.blk
  have kk1:r.elem<(N:Int):=by omega
  have kk2:r.elem.toNat*4+4≤N*4:=by omega
  refine ⟨ofV (r.len*e.sz) e.al [] .nil e.fine,[.cells (ofV (r.len*e.sz) e.al [] .nil e.fine).row,.cells (ofV (r.len*e.sz) e.al [] .nil e.fine).row,.cells e.row],of_val hx hg _ _ _ _ _ (by rw [hdeps,hv2.fine];simp) hv2.al p0 (fun h=>?_),?_⟩
  ·have hb:bigF t F r.elem=false:=by have:=hv2.fine;rw [h] at this;simpa using this.symm
   obtain ⟨y1,y2,y3⟩:=hv2.eq hb
   unfold rawL
   rw [if_pos k14,y1,y2]
   exact ⟨rfl,rfl,rfl⟩
  ·refine Ccall_over rfl rfl rfl rfl ?_
   unfold ofV RowV.row trow at *
   dsimp only at *
   rw [hm0] at *
   have em:memRows []=[]:=rfl
   have ep:plRows []=[]:=rfl
   rw [ep]
   obtain ⟨ez,ea,eL,ec,ef⟩:=e
   dsimp only at *
   generalize plRows eL=PE at *
   generalize ys.flatten=YF at *
   obtain ⟨kind,elem,len,tag,mem,done_,cp⟩:=r
   dsimp only at *
   subst k14
   clear hv2 hv1 hx hg hw hN hv hy gi hmem k1 k16 klen kdone kmem hdeps hlen es p1 p0 ly hd0
   cases ef
   ·repeat (any_goals first|simp -dsimp (maxSteps:=4000000) (maxDischargeDepth:=8) -implicitDefEqProofs [*,-Int.not_le,-Int.not_lt,amLt,ap4]|with_reducible (first|apply cB|apply iB)<;>intro _|intro _)
   ·by_cases cz:len*ez≤16384
    ·repeat (any_goals first|simp -dsimp (maxSteps:=4000000) (maxDischargeDepth:=8) -implicitDefEqProofs [*,-Int.not_le,-Int.not_lt,amLt,ap4]|with_reducible (first|apply cB|apply iB)<;>intro _|intro _)
    ·repeat (any_goals first|simp -dsimp (maxSteps:=4000000) (maxDischargeDepth:=8) -implicitDefEqProofs [*,-Int.not_le,-Int.not_lt,amLt,ap4]|with_reducible (first|apply cB|apply iB)<;>intro _|intro _)
 ·by_cases k15:r.kind=15∨r.kind=16
  ·have hd1:r.done=true:=by
    unfold wholeS at hw
    rw [hg] at hw
    dsimp only at hw
    unfold wholeR at hw
    rw [if_neg (by omega),if_neg k14,if_pos k15] at hw
    exact hw
   obtain ⟨hml,hmw⟩:=mem_ok (ha:=hx.acc) hmem hd1
   have hfit:=mems_fit hx.acc hx.rank hx.hF hmem hd1
   have hvm:∀ m ∈ r.mem,0≤m.2.1∧∃ v:RowV,ys[m.2.1.toNat]?=some v.row∧RowOKV t F m.2.1 v:=fun m hm=>hv m.2.1 (by unfold deps;rw [if_neg k14,List.nil_append];exact List.mem_map.2 ⟨m,hm,rfl⟩)
   have hdb:=deps_big (t:=t) (F:=F) k15
   have go:∀ (lay:LayT) (v':RowV),rawL (layF t F) r=lay→RecV t F r.mem lay v'→RowOKV t F id (ofV v'.sz v'.al v'.L v'.cap v'.fine):=fun lay v' hraw hrv=>of_val hx hg _ _ _ _ _ (by rw [hdb];exact hrv.fine) hrv.al hrv.sz.1 (fun h=>by
    rw [hraw]
    exact hrv.eq (by have:=hrv.fine;rw [h] at this;simpa using this.symm))
   obtain ⟨y0,hy0⟩:∃ y0:RowV,y0=⟨0,1,[],.nil,true⟩:=⟨_,rfl⟩
   rcases k15 with k15|k15
   ·obtain ⟨v',Z,r1,r2⟩:=rec_fn (ex:=ex) (c0:= .no) hml hfit hN hvm (G ++ [.cells zL,.cells y0.row]) (hy.app _)
    refine ⟨ofV v'.sz v'.al v'.L v'.cap v'.fine,[.cells (ofV v'.sz v'.al v'.L v'.cap v'.fine).row,.cells (ofV v'.sz v'.al v'.L v'.cap v'.fine).row] ++ Z,go _ v' (by unfold rawL;rw [if_neg k14,if_pos k15]) r1,?_⟩
    refine Ccall_over rfl rfl rfl rfl ?_
    subst hy0
    unfold ofV RowV.row zL trow at *
    dsimp only at *
    have ep:plRows []=[]:=rfl
    rw [ep] at r2
    generalize memRows r.mem=X at *
    obtain ⟨vs,va,vL,vc,vf⟩:=v'
    dsimp only at *
    generalize plRows vL=PV at *
    obtain ⟨kind,elem,len,tag,mem,done_,cp⟩:=r
    dsimp only at *
    subst k15
    simp only [List.append_assoc,List.cons_append,List.nil_append] at *
    clear r1 go hx hg hw hN hv hy gi hmem k1 k16 klen kdone kmem hvm hdb hml hmw hfit hd1 ep k14
    cases vf
    ·repeat (any_goals first|simp -dsimp (maxSteps:=4000000) (maxDischargeDepth:=8) -implicitDefEqProofs [*,-Int.not_le,-Int.not_lt,amLt,ap4]|with_reducible (first|apply cB|apply iB)<;>intro _|intro _)
    ·by_cases cz:vs≤16384
     ·repeat (any_goals first|simp -dsimp (maxSteps:=4000000) (maxDischargeDepth:=8) -implicitDefEqProofs [*,-Int.not_le,-Int.not_lt,amLt,ap4]|with_reducible (first|apply cB|apply iB)<;>intro _|intro _)
     ·repeat (any_goals first|simp -dsimp (maxSteps:=4000000) (maxDischargeDepth:=8) -implicitDefEqProofs [*,-Int.not_le,-Int.not_lt,amLt,ap4]|with_reducible (first|apply cB|apply iB)<;>intro _|intro _)
   ·obtain ⟨v',Z,r1,r2⟩:=uni_fn (ex:=ex) (c0:= .no) hml hfit hN hvm (G ++ [.cells zL,.cells y0.row]) (hy.app _)
    refine ⟨ofV v'.sz v'.al v'.L v'.cap v'.fine,[.cells (ofV v'.sz v'.al v'.L v'.cap v'.fine).row,.cells (ofV v'.sz v'.al v'.L v'.cap v'.fine).row] ++ Z,go _ v' (by unfold rawL;rw [if_neg k14,if_neg (by omega),if_pos k15]) r1,?_⟩
    refine Ccall_over rfl rfl rfl rfl ?_
    subst hy0
    unfold ofV RowV.row zL trow at *
    dsimp only at *
    have ep:plRows []=[]:=rfl
    rw [ep] at r2
    generalize memRows r.mem=X at *
    obtain ⟨vs,va,vL,vc,vf⟩:=v'
    dsimp only at *
    generalize plRows vL=PV at *
    obtain ⟨kind,elem,len,tag,mem,done_,cp⟩:=r
    dsimp only at *
    subst k15
    simp only [List.append_assoc,List.cons_append,List.nil_append] at *
    clear r1 go hx hg hw hN hv hy gi hmem k1 k16 klen kdone kmem hvm hdb hml hmw hfit hd1 ep k14
    cases vf
    ·repeat (any_goals first|simp -dsimp (maxSteps:=4000000) (maxDischargeDepth:=8) -implicitDefEqProofs [*,-Int.not_le,-Int.not_lt,amLt,ap4]|with_reducible (first|apply cB|apply iB)<;>intro _|intro _)
    ·by_cases cz:vs≤16384
     ·repeat (any_goals first|simp -dsimp (maxSteps:=4000000) (maxDischargeDepth:=8) -implicitDefEqProofs [*,-Int.not_le,-Int.not_lt,amLt,ap4]|with_reducible (first|apply cB|apply iB)<;>intro _|intro _)
     ·repeat (any_goals first|simp -dsimp (maxSteps:=4000000) (maxDischargeDepth:=8) -implicitDefEqProofs [*,-Int.not_le,-Int.not_lt,amLt,ap4]|with_reducible (first|apply cB|apply iB)<;>intro _|intro _)
  ·have hm0:r.mem=[]:=kmem (by
    cases hq:r.done with
    | false=>rfl
    | true=>exact absurd (kdone hq) k15)
   have hdn:=deps_none (t:=t) (F:=F) k15 k14 hm0
   have hk2:2≤r.kind:=by
    unfold wholeS at hw
    rw [hg] at hw
    dsimp only at hw
    unfold wholeR at hw
    split at hw
    ·cases hw
    ·omega
   have hwd:=fun h=>rwidth_ok h r.kind
   have hwv:widthS r.kind=1∨widthS r.kind=2∨widthS r.kind=4:=by
    unfold widthS
    split
    ·exact .inl rfl
    ·split
     ·exact .inr (.inl rfl)
     ·split
      ·exact .inr (.inr rfl)
      ·omega
   have hraw:rawL (layF t F) r=⟨widthS r.kind,widthS r.kind,[]⟩:=by unfold rawL;rw [if_neg k14,if_neg (by omega),if_neg (by omega)]
   refine ⟨ofV (widthS r.kind) (widthS r.kind) [] .nil true,[.cells (ofV (widthS r.kind) (widthS r.kind) [] .nil true).row,.cells (ofV (widthS r.kind) (widthS r.kind) [] .nil true).row],of_val hx hg _ _ _ _ _ (by rw [hdn];rfl) hwv (by omega) (fun _=>by rw [hraw];exact ⟨rfl,rfl,rfl⟩),?_⟩
   refine Ccall_over rfl rfl rfl rfl ?_
   have hle:widthS r.kind≤16384:=by omega
   unfold ofV RowV.row trow at *
   dsimp only at *
   have ep:plRows []=[]:=rfl
   rw [ep]
   have z1:¬ r.kind=15:=fun c=>k15 (.inl c)
   have z2:¬ r.kind=16:=fun c=>k15 (.inr c)
   generalize memRows r.mem=X at *
   generalize widthS r.kind=wd at *
   clear hx hg hw hN hv hy gi hmem k1 k16 klen kdone kmem hdn hk2 hwv hraw k15 hm0
   repeat (any_goals first|simp -dsimp (maxSteps:=4000000) (maxDischargeDepth:=8) -implicitDefEqProofs [*,-Int.not_le,-Int.not_lt,amLt,ap4]|with_reducible (first|apply cB|apply iB)<;>intro _|intro _)
end
structure AllI (t:List TR) (F C Y S:Nat) (c:Cap) (ok:List Bool) (ys:List (List AV)) (G:Heap):Prop where
 ref:G[C]?=some (.cells [.is (t.map trow) c])
 dep:DepAt Y t.length ys G
 s:G[S]?=some (.cells (bcells ok))
 ln:ok.length=t.length
 val:∀ (i:Nat),ok[i]?=some true→∃ v:RowV,ys[i]?=some v.row∧RowOKV t F i v
 ne:Y≠S∧C≠Y∧C≠S
def Ext4 (Y S:Nat) (h h':Heap):Prop:=h.length≤h'.length∧∀ j,j<h.length→j≠Y→j≠S→h'[j]?=h[j]?
theorem Ext4.refl (Y S:Nat) (h:Heap):Ext4 Y S h h:=⟨Nat.le_refl _,fun _ _ _ _=>rfl⟩
theorem Ext4.trans {Y S:Nat} {a b c:Heap} (p:Ext4 Y S a b) (q:Ext4 Y S b c):Ext4 Y S a c:=⟨Nat.le_trans p.1 q.1,fun j hj h1 h2=>by rw [q.2 j (Nat.lt_of_lt_of_le hj p.1) h1 h2,p.2 j hj h1 h2]⟩
section
variable {t:List TR} {rho:Nat→Nat} {F C Y S:Nat} {c:Cap} {ok:List Bool} {ys:List (List AV)}
def envA (C Y S N:Nat) (a:Bool) (i:Int):List (Nat × AV):=[(0,.mp C 0),(3,.ms Y 0 N 4 N true),(4,.ms S 0 N 1 N true),(5,.bool a),(6,.int .i64 i)]
theorem all_body (hx:Tbl t rho F) (i:Nat) {r:TR} (hi:t[i]?=some r) (a:Bool) (G:Heap) (hI:AllI t F C Y S c ok ys G) :
  (ok.getD i false=false∧wholeS t i=true∧(deps r).all (okD ok)=true→∃ G' ys',AllI t F C Y S c (ok.set i true) ys' G'∧Ext4 Y S G G'∧Brun tab 66 f111l7 (ofL (envA C Y S t.length a i)) G=some (.normal,ofL (envA C Y S t.length true (i+1)),G')) ∧
  (¬ (ok.getD i false=false∧wholeS t i=true∧(deps r).all (okD ok)=true)→Brun tab 66 f111l7 (ofL (envA C Y S t.length a i)) G=some (.normal,ofL (envA C Y S t.length a (i+1)),G)):=by
 have hlt:=(List.getElem?_eq_some_iff.1 hi).1
 have hN:=hx.acc.hi
 have hmem:=List.mem_of_getElem? hi
 obtain ⟨k1,k16,klen,kdone,kmem⟩:=acc_kind hx.acc hi
 obtain ⟨n1,n2,n3⟩:=hI.ne
 have lC:=(List.getElem?_eq_some_iff.1 hI.ref).1
 have lY:=(List.getElem?_eq_some_iff.1 hI.dep.blk).1
 have lS:=(List.getElem?_eq_some_iff.1 hI.s).1
 have cl:(bcells ok).length=t.length:=by unfold bcells;rw [List.length_map];exact hI.ln
 have cg:(bcells ok)[i]?=some (.bool (ok.getD i false)):=by
  unfold bcells
  rw [List.getElem?_map,List.getD_eq_getElem?_getD,List.getElem?_eq_getElem (by rw [hI.ln];exact hlt)]
  rfl
 have hrow:(t.map trow)[i]?=some (trow r):=by rw [List.getElem?_map,hi];rfl
 have hrow2:∀ hh,(t.map trow)[i]'hh=_:=fun hh=>(List.getElem?_eq_some_iff.1 hrow).2
 have hXl:(t.map trow).length=t.length:=List.length_map ..
 have q1:(i:Int)<t.length:=by omega
 have w1:IntKind.i64.wrap ((i:Int)+1)=(i:Int)+1:=IntWalk.i64_in _ (by omega)
 have hwh:=rwhole_ok hI.ref i
 rw [rwhole_eq hx.acc] at hwh
 have b1:i+1≤t.length:=by omega
 have hrk:=hx.rank i r hi
 have hml:r.mem.length≤64:=by
  cases hq:r.done with
  | false=>rw [kmem hq];simp
  | true=>exact (mem_ok (ha:=hx.acc) hmem hq).1
 have hrd:Ccall tab 129 [.agg (trow r),.ms S 0 t.length 1 t.length true] G=some (.bool ((deps r).all (okD ok)),G):=by
  refine ready_ok r c G hI.s hI.ln hN hml (fun k14=>?_) fun m hm=>?_
  ·have hd0:r.done=false:=by
    cases hq:r.done with
    | false=>rfl
    | true=>have:=kdone hq;omega
   have:=hrk r.elem (by unfold deps;rw [if_pos k14];simp)
   exact ⟨kmem hd0,this.1,by omega⟩
  ·have:=hrk m.2.1 (by unfold deps;exact List.mem_append.2 (.inr (List.mem_map.2 ⟨m,hm,rfl⟩)))
   exact ⟨this.1,by omega⟩
 have hsc2:∃ a0 a1 a2 a3 a4 a5,trow r=[a0,a1,a2,a3,a4,a5]∧isSc a0=true∧isSc a1=true∧isSc a2=true∧isSc a3=true∧isSc a4=true∧isSc a5=true:=⟨_,_,_,_,_,_,rfl,rfl,rfl,rfl,rfl,rfl,rfl⟩
 constructor
 ·rintro ⟨c1,c2,c3⟩
  have hg:getT t i=some r:=by unfold getT;rw [if_pos (by omega)];exact hi
  have hdv:∀ d ∈ deps r,0≤d∧∃ v:RowV,ys[d.toNat]?=some v.row∧RowOKV t F d v:=fun d hd=>by
   obtain ⟨d0,d1,_⟩:=hrk d hd
   have:=List.all_eq_true.1 c3 d hd
   obtain ⟨v,v1,v2⟩:=hI.val d.toNat (okD_true this)
   rw [Int.toNat_of_nonneg d0] at v2
   exact ⟨d0,v,v1,v2⟩
  obtain ⟨v,Z,o1,o2⟩:=of_ok (ex:=true) hx hg c2 hN hdv G hI.dep
  have hys:ys.length=t.length:=hI.dep.len
  have hset:=flat4_set ys i v.row hI.dep.row (by omega)
  have hfl:=flat4_len ys hI.dep.row
  rw [hys] at hfl
  have hvl:v.row.length=4:=rfl
  have gY:(G ++ Z)[Y]?=some (.cells ys.flatten):=rapp hI.dep.blk Z
  have gS:(G ++ Z)[S]?=some (.cells (bcells ok)):=rapp hI.s Z
  have lGZ:G.length≤(G ++ Z).length:=by simp
  refine ⟨((G ++ Z).set Y (.cells (ys.set i v.row).flatten)).set S (.cells (bcells (ok.set i true))),ys.set i v.row,⟨?_,⟨?_,by rw [List.length_set];exact hys,fun q hq=>?_⟩,?_,by rw [List.length_set];exact hI.ln,fun j hj=>?_,hI.ne⟩,⟨by simp,fun j hj h1 h2=>?_⟩,?_⟩
  ·rw [List.getElem?_set_ne (Ne.symm n3),List.getElem?_set_ne (Ne.symm n2)];exact rapp hI.ref Z
  ·rw [List.getElem?_set_ne (Ne.symm n1),List.getElem?_set,if_pos rfl,if_pos (by omega)]
  ·rcases List.mem_or_eq_of_mem_set hq with hq|hq
   ·exact hI.dep.row q hq
   ·rw [hq];rfl
  ·rw [List.getElem?_set,if_pos rfl,if_pos (by rw [List.length_set];omega)]
  ·by_cases e:i=j
   ·subst e
    exact ⟨v,by rw [List.getElem?_set,if_pos rfl,if_pos (by omega)],o1⟩
   ·rw [List.getElem?_set_ne e] at hj
    obtain ⟨v2,v3,v4⟩:=hI.val j hj
    exact ⟨v2,by rw [List.getElem?_set_ne e];exact v3,v4⟩
  ·rw [List.getElem?_set_ne (Ne.symm h2),List.getElem?_set_ne (Ne.symm h1),List.getElem?_append_left hj]
  ·rw [← bcells_set (by rw [hI.ln];exact hlt),← hset]
   have gS2:∀ y,((G ++ Z).set Y y)[S]?=some (.cells (bcells ok)):=fun y=>by rw [List.getElem?_set_ne n1];exact gS
   have hC:=hI.ref
   have hSS:=hI.s
   have z1:i*4+4≤t.length*4:=by omega
   have z2:i<t.length:=hlt
   rw [c1] at cg
   rw [c2] at hwh
   rw [c3] at hrd
   have cg2:=(List.getElem?_eq_some_iff.1 cg).2
   unfold envA
   rw [f111l7_b]
   unfold f111m7
   unfold RowV.row at *
   obtain ⟨a0,a1,a2,a3,a4,a5,ea,d0,d1,d2,d3,d4,d5⟩:=hsc2
   rw [ea] at hrow hrow2 hrd o2
   generalize t.map trow=X at *
   generalize ys.flatten=YF at *
   generalize bcells ok=BC at *
   generalize t.length=NN at *
   generalize plRows v.L=PV at *
   clear hI hx hi hmem k1 k16 klen kdone kmem n1 n2 n3 lC lY lS hrk hml hg hdv o1 hys hset gS lGZ c1 c2 c3 hlt hN hvl ea
   repeat (any_goals first|simp -dsimp (maxSteps:=4000000) (maxDischargeDepth:=8) -implicitDefEqProofs [*,-Int.not_le,-Int.not_lt,amLt]|with_reducible (first|apply cB|apply iB)<;>intro _|intro _)
 ·intro hno
  have hC:=hI.ref
  have hSS:=hI.s
  have z2:i<t.length:=hlt
  unfold envA
  rw [f111l7_b]
  unfold f111m7
  obtain ⟨a0,a1,a2,a3,a4,a5,ea,d0,d1,d2,d3,d4,d5⟩:=hsc2
  rw [ea] at hrow hrow2 hrd
  generalize t.map trow=X at *
  by_cases c1:ok.getD i false=false
  ·rw [c1] at cg
   have cg2:=(List.getElem?_eq_some_iff.1 cg).2
   by_cases c2:wholeS t i=true
   ·have c3:(deps r).all (okD ok)=false:=by
     cases hq:(deps r).all (okD ok) with
     | false=>rfl
     | true=>exact absurd ⟨c1,c2,hq⟩ hno
    rw [c2] at hwh
    rw [c3] at hrd
    generalize bcells ok=BC at *
    generalize t.length=NN at *
    clear hI hx hi hmem k1 k16 klen kdone kmem n1 n2 n3 lC lY lS hrk hml hno c1 c2 c3 hlt hN ea
    repeat (any_goals first|simp -dsimp (maxSteps:=4000000) (maxDischargeDepth:=8) -implicitDefEqProofs [*,-Int.not_le,-Int.not_lt,amLt]|with_reducible (first|apply cB|apply iB)<;>intro _|intro _)
   ·simp only [Bool.not_eq_true] at c2
    rw [c2] at hwh
    generalize bcells ok=BC at *
    generalize t.length=NN at *
    clear hI hx hi hmem k1 k16 klen kdone kmem n1 n2 n3 lC lY lS hrk hml hno c1 c2 hlt hN ea hrd
    repeat (any_goals first|simp -dsimp (maxSteps:=4000000) (maxDischargeDepth:=8) -implicitDefEqProofs [*,-Int.not_le,-Int.not_lt,amLt]|with_reducible (first|apply cB|apply iB)<;>intro _|intro _)
  ·simp only [Bool.not_eq_false] at c1
   rw [c1] at cg
   have cg2:=(List.getElem?_eq_some_iff.1 cg).2
   generalize bcells ok=BC at *
   generalize t.length=NN at *
   clear hI hx hi hmem k1 k16 klen kdone kmem n1 n2 n3 lC lY lS hrk hml hno c1 hlt hN ea hrd hwh
   repeat (any_goals first|simp -dsimp (maxSteps:=4000000) (maxDischargeDepth:=8) -implicitDefEqProofs [*,-Int.not_le,-Int.not_lt,amLt]|with_reducible (first|apply cB|apply iB)<;>intro _|intro _)
end
section
variable {t:List TR} {rho:Nat→Nat} {F C Y S:Nat} {c:Cap}
theorem passA_loop (hx:Tbl t rho F):∀ (n i:Nat) (ok:List Bool) (ys:List (List AV)) (a:Bool) (G:Heap),i+n=t.length→AllI t F C Y S c ok ys G →
  ∃ G' ys',AllI t F C Y S c (passW t n i ok a).1 ys' G'∧Ext4 Y S G G'∧Brun tab 66 (.loop f111l7) (ofL (envA C Y S t.length a i)) G=some (.exit 2,ofL [(0,.mp C 0),(3,.ms Y 0 t.length 4 t.length true),(4,.ms S 0 t.length 1 t.length true),(5,.bool (passW t n i ok a).2),(6,.int .i64 t.length),(26,.bool false)],G'):=by
 intro n
 induction n with
 | zero =>
  intro i ok ys a G hi hI
  refine ⟨G,ys,hI,Ext4.refl ..,?_⟩
  have hlen:(t.map trow).length=t.length:=List.length_map ..
  have e3:¬ (t.length:Int)<i:=by omega
  have e4:(t.length:Int)≤i:=by omega
  have e5:(t.length:Int)=i:=by omega
  have hP:passW t 0 i ok a=(ok,a):=rfl
  have hC:=hI.ref
  rw [Brun_loop,hP,f111l7_b]
  unfold f111m7 envA
  dsimp only
  generalize t.map trow=X at *
  clear hI hi hP hx
  repeat (any_goals first|simp -dsimp (maxSteps:=4000000) (maxDischargeDepth:=8) -implicitDefEqProofs [*,-Int.not_le,-Int.not_lt,amLt]|with_reducible (first|apply cB|apply iB)<;>intro _|intro _)
 | succ n ih =>
  intro i ok ys a G hi hI
  have hlt:i<t.length:=by omega
  have hg:t[i]?=some t[i]:=List.getElem?_eq_getElem hlt
  obtain ⟨y1,y2⟩:=all_body hx i hg a G hI
  unfold passW
  rw [hg]
  dsimp only
  by_cases hn:ok.getD i false=false∧wholeS t i=true∧(deps t[i]).all (okD ok)=true
  ·rw [if_pos hn]
   obtain ⟨G1,ys1,h1,h2,h3⟩:=y1 hn
   obtain ⟨G',ys',g1,g2,g3⟩:=ih (i+1) (ok.set i true) ys1 true G1 (by omega) h1
   refine ⟨G',ys',g1,h2.trans g2,?_⟩
   push_cast at g3
   rw [Brun_loop,h3,bthen_normal]
   exact g3
  ·rw [if_neg hn]
   obtain ⟨G',ys',g1,g2,g3⟩:=ih (i+1) ok ys a G (by omega) hI
   refine ⟨G',ys',g1,g2,?_⟩
   push_cast at g3
   rw [Brun_loop,y2 hn,bthen_normal]
   exact g3
theorem allA_loop (hx:Tbl t rho F):∀ (f:Nat) (ok ok':List Bool) (ys:List (List AV)) (G:Heap) (E:List (Nat × AV)),allW t f ok=some ok'→AllI t F C Y S c ok ys G →
  ∃ G' ys',AllI t F C Y S c ok' ys' G'∧Ext4 Y S G G'∧Brun tab 66 (.loop f111l4) (ofL ((0,.mp C 0) :: (3,.ms Y 0 t.length 4 t.length true) :: (4,.ms S 0 t.length 1 t.length true) :: (5,.bool true) :: E)) G=some (.exit 0,ofL [(0,.mp C 0),(3,.ms Y 0 t.length 4 t.length true),(4,.ms S 0 t.length 1 t.length true),(19,.bool false)],G'):=by
 intro f
 induction f with
 | zero=>intro ok ok' ys G E h;cases h
 | succ f ih =>
  intro ok ok' ys G E h hI
  obtain ⟨G1,ys1,i1,x1,b1⟩:=passA_loop hx t.length 0 ok ys false G (by omega) hI
  unfold allW at h
  unfold envA at b1
  simp only [Int.natCast_zero] at b1
  cases hq:passW t t.length 0 ok false with
  | mk p b =>
   rw [hq] at h b1 i1
   dsimp only at b1 i1
   cases b with
   | true =>
    dsimp only at h
    obtain ⟨G2,ys2,i2,x2,b2⟩:=ih p ok' ys1 G1 [(6,.int .i64 t.length),(26,.bool false)] h i1
    refine ⟨G2,ys2,i2,x1.trans x2,?_⟩
    rw [Brun_loop]
    clear hq h hI i1 i2 x1 x2 ih hx
    repeat (any_goals first|simp -dsimp (maxSteps:=4000000) (maxDischargeDepth:=8) -implicitDefEqProofs [*,-Int.not_le,-Int.not_lt,amLt]|with_reducible (first|apply cB|apply iB)<;>intro _|intro _)
   | false =>
    simp only [Option.some.injEq] at h
    subst h
    refine ⟨G1,ys1,i1,x1,?_⟩
    have hb2:Brun tab 66 f111l4 (ofL [(0,.mp C 0),(3,.ms Y 0 t.length 4 t.length true),(4,.ms S 0 t.length 1 t.length true),(5,.bool false),(6,.int .i64 t.length),(26,.bool false)]) G1=some (.exit 0,ofL [(0,.mp C 0),(3,.ms Y 0 t.length 4 t.length true),(4,.ms S 0 t.length 1 t.length true),(19,.bool false)],G1):=by
     clear hq hI i1 x1 ih hx b1
     repeat (any_goals first|simp -dsimp (maxSteps:=4000000) (maxDischargeDepth:=8) -implicitDefEqProofs [*,-Int.not_le,-Int.not_lt,amLt]|with_reducible (first|apply cB|apply iB)<;>intro _|intro _)
    have hb1:Brun tab 66 f111l4 (ofL ((0,.mp C 0) :: (3,.ms Y 0 t.length 4 t.length true) :: (4,.ms S 0 t.length 1 t.length true) :: (5,.bool true) :: E)) G=some (.normal,ofL [(0,.mp C 0),(3,.ms Y 0 t.length 4 t.length true),(4,.ms S 0 t.length 1 t.length true),(5,.bool false),(6,.int .i64 t.length),(26,.bool false)],G1):=by
     clear hq hI i1 x1 ih hx hb2
     repeat (any_goals first|simp -dsimp (maxSteps:=4000000) (maxDischargeDepth:=8) -implicitDefEqProofs [*,-Int.not_le,-Int.not_lt,amLt]|with_reducible (first|apply cB|apply iB)<;>intro _|intro _)
    rw [Brun_loop,hb1,bthen_normal,Brun_loop,hb2]
    rfl
theorem zL_rep (n:Nat):repeatCells n [.int .i64 0,.int .i64 0,.is [] .nil,.bool false]=(List.replicate n zL).flatten:=rfl
theorem all_ok (hx:Tbl t rho F) (G:Heap) (hC:G[C]?=some (.cells [.is (t.map trow) c])) :
  ∃ ys Z,DepAt G.length t.length ys (G ++ Z)∧(∀ id:Int,wholeS t id=true→∃ v:RowV,ys[id.toNat]?=some v.row∧RowOKV t F id v)∧Ccall tab 111 [.mp C 0] G=some (.ms G.length 0 t.length 4 t.length true,G ++ Z):=by
 have lC:=(List.getElem?_eq_some_iff.1 hC).1
 have hN:=hx.acc.hi
 have hlo:=hx.acc.lo
 obtain ⟨ok',hok⟩:=allW_ends (t:=t) (t.length+1) (List.replicate t.length false) List.length_replicate (by rw [List.count_replicate];simp)
 obtain ⟨H0,hH0⟩:∃ H0:Heap,H0=G ++ [.cells (List.replicate t.length zL).flatten,.cells (bcells (List.replicate t.length false))]:=⟨_,rfl⟩
 have hI:AllI t F C G.length (G.length+1) c (List.replicate t.length false) (List.replicate t.length zL) H0:=by
  refine ⟨by rw [hH0];exact rapp hC _,⟨?_,List.length_replicate,fun r hr=>?_⟩,?_,List.length_replicate,fun i hi=>?_,by omega,by omega,by omega⟩
  ·rw [hH0,List.getElem?_append_right (Nat.le_refl _),Nat.sub_self];rfl
  ·rw [(List.mem_replicate.1 hr).2];rfl
  ·rw [hH0,List.getElem?_append_right (by omega),Nat.add_sub_cancel_left];rfl
  ·rw [List.getElem?_replicate] at hi
   split at hi<;>cases hi
 obtain ⟨G',ys',g1,g2,g3⟩:=allA_loop hx (t.length+1) _ ok' _ H0 [] hok hI
 obtain ⟨_,hall⟩:=allW_all hx.acc hx.rank (t.length+1) _ ok' List.length_replicate hok
 obtain ⟨Z,hZ⟩:=pre_app2 (G:=G) (H:=G') (by have:=g2.1;rw [hH0] at this;simp at this;omega) (fun j hj=>by
  rw [g2.2 j (by rw [hH0];simp;omega) (by omega) (by omega),hH0,List.getElem?_append_left hj])
 refine ⟨ys',Z,by rw [← hZ];exact g1.dep,fun id hid=>?_,?_⟩
 ·have h0:0≤id:=by
   cases hg:getT t id with
   | none=>unfold wholeS at hid;rw [hg] at hid;cases hid
   | some r=>exact (getT_some hg).1
  obtain ⟨v,v1,v2⟩:=g1.val id.toNat (hall id.toNat (by rw [Int.toNat_of_nonneg h0];exact hid))
  rw [Int.toNat_of_nonneg h0] at v2
  exact ⟨v,v1,v2⟩
 ·rw [← hZ]
  have r1:roomy t.length 48=true:=by unfold roomy;simp only [decide_eq_true_eq];omega
  have r2:roomy t.length 1=true:=by unfold roomy;simp only [decide_eq_true_eq];omega
  have z1:=zL_rep t.length
  have z2:=bcells_rep t.length
  have v2:(t.length:Int)≤9223372036854775807:=by omega
  have v3:(0:Int)≤t.length:=by omega
  have hXl:(t.map trow).length=t.length:=List.length_map ..
  have hCx:=fun x=>rapp (X:=x) hC
  rw [hH0] at g3
  refine Ccall_over rfl rfl rfl rfl ?_
  generalize t.map trow=X at *
  generalize bcells (List.replicate t.length false)=BC at *
  generalize (List.replicate t.length zL).flatten=ZC at *
  generalize t.length=NN at *
  clear hx hI g1 g2 hall hok hlo hN hH0 hZ lC
  repeat (any_goals first|simp -dsimp (maxSteps:=4000000) (maxDischargeDepth:=8) -implicitDefEqProofs [*,-Int.not_le,-Int.not_lt,amLt,ap4]|with_reducible (first|apply cB|apply iB)<;>intro _|intro _)
end
section
variable {t:List TR} {rho:Nat→Nat} {F C:Nat} {c:Cap}
theorem asked_ok (hx:Tbl t rho F) (G:Heap) (hC:G[C]?=some (.cells [.is (t.map trow) c])) (id:Int) :
  ∃ Z,(begE t F id≠0→Ccall tab 75 [.mp C 0,.int .i64 id] G=some (.tup [.agg zL,.int .i64 (begE t F id)],G ++ Z)) ∧
   (begE t F id=0→∃ cap,Ccall tab 75 [.mp C 0,.int .i64 id] G=some (.tup [.agg [.int .i64 (layF t F id).size,.int .i64 (layF t F id).align,.is (plRows (layF t F id).pl) cap,.bool true],.int .i64 0],G ++ Z)):=by
 have hCx:=fun x=>rapp (X:=x) hC
 have hh:=fun x=>rhas_ok (hCx x) id
 have hwh:=fun x=>rwhole_ok (hCx x) id
 rw [rwhole_eq hx.acc] at hwh
 by_cases h1:hasS t id=true
 ·rw [h1] at hh
  by_cases h2:wholeS t id=true
  ·rw [h2] at hwh
   obtain ⟨ys,Z,d1,d2,d3⟩:=all_ok hx (G ++ [.cells zL,.free]) (hCx _)
   obtain ⟨v,v1,v2⟩:=d2 id h2
   have h0:0≤id∧id<t.length:=by
    rw [hasS_dec] at h1
    simp only [Bool.and_eq_true,decide_eq_true_eq] at h1
    exact h1
   have ly:=(List.getElem?_eq_some_iff.1 v1).1
   have hfl:=flat4_row v1 d1.row
   have hfn:=flat4_len ys d1.row
   rw [d1.len] at hfn ly
   have kk2:id.toNat*4+4≤t.length*4:=by omega
   have hblk:=d1.blk
   have gl:(G ++ [Blk.cells zL,.free]).length=G.length+2:=by simp
   rw [gl] at d3 hblk
   have hsc:∃ a0 a1 a2,v.row=[a0,a1,a2,.bool v.fine]∧isSc a0=true∧isSc a1=true∧isSc a2=true:=⟨_,_,_,rfl,rfl,rfl,rfl⟩
   cases hb:bigF t F id with
   | true =>
    have hbe:begE t F id=51:=by unfold begE;rw [if_neg (by rw [h1];decide),if_neg (by rw [h2];decide),if_pos hb]
    have hvf:v.fine=false:=by rw [v2.fine,hb];rfl
    rw [hbe]
    refine ⟨[.cells zL,.cells v.row] ++ Z,fun _=>?_,fun q=>absurd q (by decide)⟩
    refine Ccall_over rfl rfl rfl rfl ?_
    obtain ⟨a0,a1,a2,ea,s0,s1,s2⟩:=hsc
    rw [hvf] at ea
    rw [ea] at hfl ⊢
    unfold zL at *
    simp only [List.append_assoc,List.cons_append,List.nil_append] at *
    generalize t.map trow=X at *
    generalize ys.flatten=YF at *
    generalize t.length=NN at *
    obtain ⟨i0,i1⟩:=h0
    clear hx hC d1 d2 v1 v2 h1 h2 hb hbe hvf ea ly gl
    repeat (any_goals first|simp -dsimp (maxSteps:=4000000) (maxDischargeDepth:=8) -implicitDefEqProofs [*,-Int.not_le,-Int.not_lt,amLt,ap4]|with_reducible (first|apply cB|apply iB)<;>intro _|intro _)
   | false =>
    have hbe:begE t F id=0:=by unfold begE;rw [if_neg (by rw [h1];decide),if_neg (by rw [h2];decide),if_neg (by rw [hb];decide)]
    have hvf:v.fine=true:=by rw [v2.fine,hb];rfl
    obtain ⟨y1,y2,y3⟩:=v2.eq hb
    rw [hbe]
    refine ⟨[.cells v.row,.cells v.row] ++ Z,fun q=>absurd rfl q,fun _=>⟨v.cap,?_⟩⟩
    refine Ccall_over rfl rfl rfl rfl ?_
    have ev:v.row=[.int .i64 (layF t F id).size,.int .i64 (layF t F id).align,.is (plRows (layF t F id).pl) v.cap,.bool true]:=by unfold RowV.row;rw [y1,y2,y3,hvf]
    rw [ev] at hfl ⊢
    unfold zL at *
    simp only [List.append_assoc,List.cons_append,List.nil_append] at *
    generalize t.map trow=X at *
    generalize ys.flatten=YF at *
    generalize plRows (layF t F id).pl=PL at *
    generalize layF t F id=lay at *
    generalize t.length=NN at *
    obtain ⟨i0,i1⟩:=h0
    clear hx hC d1 d2 v1 v2 h1 h2 hb hbe hvf ly gl hsc y1 y2 y3 ev
    repeat (any_goals first|simp -dsimp (maxSteps:=4000000) (maxDischargeDepth:=8) -implicitDefEqProofs [*,-Int.not_le,-Int.not_lt,amLt,ap4]|with_reducible (first|apply cB|apply iB)<;>intro _|intro _)
  ·simp only [Bool.not_eq_true] at h2
   rw [h2] at hwh
   have hbe:begE t F id=50:=by unfold begE;rw [if_neg (by rw [h1];decide),if_pos h2]
   rw [hbe]
   refine ⟨[.cells zL],fun _=>?_,fun q=>absurd q (by decide)⟩
   refine Ccall_over rfl rfl rfl rfl ?_
   unfold zL
   generalize t.map trow=X at *
   clear hx h1 h2 hbe hC
   repeat (any_goals first|simp -dsimp (maxSteps:=4000000) (maxDischargeDepth:=8) -implicitDefEqProofs [*,-Int.not_le,-Int.not_lt,amLt,ap4]|with_reducible (first|apply cB|apply iB)<;>intro _|intro _)
 ·simp only [Bool.not_eq_true] at h1
  rw [h1] at hh
  have hbe:begE t F id=30:=by unfold begE;rw [if_pos h1]
  rw [hbe]
  refine ⟨[.cells zL],fun _=>?_,fun q=>absurd q (by decide)⟩
  refine Ccall_over rfl rfl rfl rfl ?_
  unfold zL
  generalize t.map trow=X at *
  clear hx h1 hbe hC hwh
  repeat (any_goals first|simp -dsimp (maxSteps:=4000000) (maxDischargeDepth:=8) -implicitDefEqProofs [*,-Int.not_le,-Int.not_lt,amLt,ap4]|with_reducible (first|apply cB|apply iB)<;>intro _|intro _)
theorem rsize_ok (hx:Tbl t rho F) (G:Heap) (hC:G[C]?=some (.cells [.is (t.map trow) c])) (id:Int) :
  ∃ Z,Ccall tab 76 [.mp C 0,.int .i64 id] G=some (.tup [.int .i64 (sizE t F id),.int .i64 (begE t F id)],G ++ Z):=by
 obtain ⟨Z,a1,a2⟩:=asked_ok hx (G ++ [.free]) (rapp hC _) id
 unfold sizE
 by_cases h0:begE t F id=0
 ·obtain ⟨cap,a2⟩:=a2 h0
  rw [if_pos h0,h0]
  refine ⟨[.cells [.int .i64 (layF t F id).size,.int .i64 (layF t F id).align,.is (plRows (layF t F id).pl) cap,.bool true]] ++ Z,?_⟩
  refine Ccall_over rfl rfl rfl rfl ?_
  simp only [List.append_assoc,List.cons_append,List.nil_append] at *
  generalize plRows (layF t F id).pl=PL at *
  generalize layF t F id=lay at *
  clear hx hC h0 a1
  repeat (any_goals first|simp -dsimp (maxSteps:=4000000) (maxDischargeDepth:=8) -implicitDefEqProofs [*,-Int.not_le,-Int.not_lt,amLt,ap4]|with_reducible (first|apply cB|apply iB)<;>intro _|intro _)
 ·have a1:=a1 h0
  rw [if_neg h0]
  refine ⟨[.cells zL] ++ Z,?_⟩
  refine Ccall_over rfl rfl rfl rfl ?_
  unfold zL at *
  simp only [List.append_assoc,List.cons_append,List.nil_append] at *
  generalize begE t F id=e at *
  clear hx hC h0 a2
  repeat (any_goals first|simp -dsimp (maxSteps:=4000000) (maxDischargeDepth:=8) -implicitDefEqProofs [*,-Int.not_le,-Int.not_lt,amLt,ap4]|with_reducible (first|apply cB|apply iB)<;>intro _|intro _)
end
end Go.Proofs.YtfhijkapcdmdnaaGreatDoor
