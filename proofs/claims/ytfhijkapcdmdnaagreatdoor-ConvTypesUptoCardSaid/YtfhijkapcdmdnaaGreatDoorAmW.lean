/- The abstract machine: what is looked at first. -/
import Derived.Test.YtfhijkapcdmdnaaGreatDoorAmV
namespace Go.AM
theorem andF_cg {α β γ:Type} {r r':Option (α × β)} (k:α→β→Option γ) (h:r=r'):andF r k=andF r' k:=by rw [h]
theorem onF_cg {r r':Option AV} (hp:Heap) (h:r=r'):onF r hp=onF r' hp:=by rw [h]
theorem bthen_cg {r r':Option (Ex × Env × Heap)} (k:Env→Heap→Option (Ex × Env × Heap)) (h:r=r'):bthen r k=bthen r' k:=by rw [h]
theorem bkeep_cg {r r':Option (Env × Heap)} (k:List Nat) (h:r=r'):bkeep k r=bkeep k r':=by rw [h]
theorem bcond_cg {v v':AV} (x y:Option (Ex × Env × Heap)) (h:v=v'):bcond v x y=bcond v' x y:=by rw [h]
theorem guardV_cg {v v':AV} (w:Bool) (x:Option (AV × Heap)) (hp:Heap) (h:v=v'):guardV v w x hp=guardV v' w x hp:=by rw [h]
theorem putF_cg (nt:Nat) (e:Env) (d:Option Nat) {v v':AV} {α:Type} (k:Env→Option α) (q:v=v'):putF nt e d v k=putF nt e d v' k:=by rw [q]
theorem guardF_cg (e:Env) (g:Option (Nat × Bool)) (x:Option (AV × Heap)) {h h':Heap} (q:h=h'):guardF e g x h=guardF e g x h':=by rw [q]
theorem ite_cg {α:Type} {c c':Prop} [Decidable c] [Decidable c'] (x y:α) (h:c=c'):(if c then x else y)=(if c' then x else y):=by subst h;congr
theorem stepsF_cg (nt:Nat) (step:Nat→AOp→Env→Heap→Option (AV × Heap)) (base:Nat) (l:List AOper) (e:Env) {h h':Heap} (q:h=h'):stepsF nt step base l e h=stepsF nt step base l e h':=by rw [q]
inductive Tag {α:Type} (x:α):Type where|mk
def chF (c:Prop) [Decidable c] {α:Type} (x y:α) (_:Tag x) (_:Tag y):α:=if c then x else y
theorem chF_true {α:Type} (x y:α) (tx:Tag x) (ty:Tag y):chF True x y tx ty=x:=by simp [chF]
theorem chF_false {α:Type} (x y:α) (tx:Tag x) (ty:Tag y):chF False x y tx ty=y:=by simp [chF]
theorem chF_not (c:Prop) [Decidable c] {α:Type} (x y:α) (tx:Tag x) (ty:Tag y):chF (¬ c) x y tx ty=chF c y x ty tx:=by
 by_cases h:c<;>simp [chF,h]
theorem cB {c:Prop} [Decidable c] {α:Type} {x y r:α} {tx:Tag x} {ty:Tag y} (h1:c→x=r) (h2:¬ c→y=r):chF c x y tx ty=r:=by
 by_cases h:c
 ·simp only [chF,if_pos h];exact h1 h
 ·simp only [chF,if_neg h];exact h2 h
section
variable (p:Prop) [Decidable p]
theorem andF_chi {α β:Type} (x y:Option (α × β)) {γ:Type} (k:α→β→Option γ):andF (if p then x else y) k=chF p (andF x k) (andF y k) .mk .mk:=by simp only [chF];split<;>rfl
theorem andF_ch {α β:Type} (x y:Option (α × β)) (tx:Tag x) (ty:Tag y) {γ:Type} (k:α→β→Option γ):andF (chF p x y tx ty) k=chF p (andF x k) (andF y k) .mk .mk:=by simp only [chF];split<;>rfl
theorem onF_chi (x y:Option AV) (h:Heap):onF (if p then x else y) h=chF p (onF x h) (onF y h) .mk .mk:=by simp only [chF];split<;>rfl
theorem onF_ch (x y:Option AV) (tx:Tag x) (ty:Tag y) (h:Heap):onF (chF p x y tx ty) h=chF p (onF x h) (onF y h) .mk .mk:=by simp only [chF];split<;>rfl
theorem bthen_ch (x y:Option (Ex × Env × Heap)) (tx:Tag x) (ty:Tag y) (f:Env→Heap→Option (Ex × Env × Heap)):bthen (chF p x y tx ty) f=chF p (bthen x f) (bthen y f) .mk .mk:=by simp only [chF];split<;>rfl
theorem bthen_chi (x y:Option (Ex × Env × Heap)) (f:Env→Heap→Option (Ex × Env × Heap)):bthen (if p then x else y) f=chF p (bthen x f) (bthen y f) .mk .mk:=by simp only [chF];split<;>rfl
theorem bblock_ch (i:Nat) (x y:Option (Ex × Env × Heap)) (tx:Tag x) (ty:Tag y):bblock i (chF p x y tx ty)=chF p (bblock i x) (bblock i y) .mk .mk:=by simp only [chF];split<;>rfl
theorem bblock_chi (i:Nat) (x y:Option (Ex × Env × Heap)):bblock i (if p then x else y)=chF p (bblock i x) (bblock i y) .mk .mk:=by simp only [chF];split<;>rfl
theorem bkeep_ch (k:List Nat) (x y:Option (Env × Heap)) (tx:Tag x) (ty:Tag y):bkeep k (chF p x y tx ty)=chF p (bkeep k x) (bkeep k y) .mk .mk:=by simp only [chF];split<;>rfl
theorem bkeep_chi (k:List Nat) (x y:Option (Env × Heap)):bkeep k (if p then x else y)=chF p (bkeep k x) (bkeep k y) .mk .mk:=by simp only [chF];split<;>rfl
theorem bown_ch (res:List ARes) (x y:Option (Ex × Env × Heap)) (tx:Tag x) (ty:Tag y):bown res (chF p x y tx ty)=chF p (bown res x) (bown res y) .mk .mk:=by simp only [chF];split<;>rfl
theorem bown_chi (res:List ARes) (x y:Option (Ex × Env × Heap)):bown res (if p then x else y)=chF p (bown res x) (bown res y) .mk .mk:=by simp only [chF];split<;>rfl
theorem banswer_ch (res:List ARes) (x y:Option (Ex × Env × Heap)) (tx:Tag x) (ty:Tag y):banswer res (chF p x y tx ty)=chF p (banswer res x) (banswer res y) .mk .mk:=by simp only [chF];split<;>rfl
theorem banswer_chi (res:List ARes) (x y:Option (Ex × Env × Heap)):banswer res (if p then x else y)=chF p (banswer res x) (banswer res y) .mk .mk:=by simp only [chF];split<;>rfl
theorem isSome_ch {α:Type} (x y:Option α) (tx:Tag x) (ty:Tag y):(chF p x y tx ty).isSome=chF p x.isSome y.isSome .mk .mk:=by simp only [chF];split<;>rfl
end
theorem bcond_ch (b:Bool) (x y:Option (Ex × Env × Heap)):bcond (.bool b) x y=chF (b=true) x y .mk .mk:=by simp only [chF];rfl
theorem guardV_ch1 (b:Bool) (x:Option (AV × Heap)) (h:Heap):guardV (.bool b) true x h=chF (b=true) x (some (.tup [],h)) .mk .mk:=by simp only [chF];rfl
theorem guardV_ch0 (b:Bool) (x:Option (AV × Heap)) (h:Heap):guardV (.bool b) false x h=chF (b=true) (some (.tup [],h)) x .mk .mk:=by cases b<;>rfl
theorem app_get {α:Type} {s r:List α} {n:Nat} (hs:s.length=n) (j:Nat):(s ++ r)[n+j]?=r[j]?:=by
 subst hs;rw [List.getElem?_append_right (by omega)];congr 1;omega
theorem app_get0 {α:Type} {s r:List α} {n:Nat} (hs:s.length=n):(s ++ r)[n]?=r[0]?:=app_get hs 0
theorem app_set {α:Type} {s r:List α} {n:Nat} (hs:s.length=n) (j:Nat) (x:α):(s ++ r).set (n+j) x=s ++ r.set j x:=by
 subst hs;rw [List.set_append_right _ _ (by omega)];congr 2;omega
theorem app_set0 {α:Type} {s r:List α} {n:Nat} (hs:s.length=n) (x:α):(s ++ r).set n x=s ++ r.set 0 x:=app_set hs 0 x
def CapAt (k:Nat) (cap:Cap) (sz:Nat) (rows:List (List AV)) (t:Heap):Prop :=
 match cap with
 | .tok id s=>s=sz∧∃ j,id=j+k∧t[j]?=some .tok
 | cap=>cap.tight=true∧rowsz sz rows=true
def spendAt (k:Nat) (cap:Cap) (t:Heap):Heap :=
 match cap with
 | .tok id _=>t.set (id - k) .dead
 | _=>t
theorem spendAt_len (k:Nat) (cap:Cap) (t:Heap):(spendAt k cap t).length=t.length:=by cases cap<;>simp [spendAt]
theorem CapAt.room {k:Nat} {cap:Cap} {sz:Nat} {rows:List (List AV)} {t:Heap} (h:CapAt k cap sz rows t) {p:Heap} (hp:p.length=k) (r:Heap):roomOK cap sz rows (p ++ (t ++ r))=true:=by
 cases cap with
 | tok id s =>
  obtain ⟨rfl,j,rfl,hj⟩:=h
  subst hp
  simp only [roomOK,BEq.rfl,Bool.true_and]
  rw [Nat.add_comm,app_get rfl,List.getElem?_append_left (set_lt hj),hj]
 | _=>simpa [roomOK,CapAt] using h
theorem CapAt.spend {k:Nat} {cap:Cap} {sz:Nat} {rows:List (List AV)} {t:Heap} (h:CapAt k cap sz rows t) {p:Heap} (hp:p.length=k) (r:Heap):spend cap (p ++ (t ++ r))=p ++ (spendAt k cap t ++ r):=by
 cases cap with
 | tok id s =>
  obtain ⟨rfl,j,rfl,hj⟩:=h
  subst hp
  simp only [Go.AM.spend,spendAt,Nat.add_sub_cancel]
  rw [Nat.add_comm,app_set rfl,List.set_append_left _ _ (set_lt hj)]
 | _=>rfl
theorem CapAt.app {k:Nat} {cap:Cap} {sz:Nat} {rows:List (List AV)} {t:Heap} (h:CapAt k cap sz rows t) (r:Heap):CapAt k cap sz rows (t ++ r):=by
 cases cap with
 | tok id s=>obtain ⟨h1,j,h2,h3⟩:=h;exact ⟨h1,j,h2,by rw [List.getElem?_append_left (set_lt h3)];exact h3⟩
 | _=>exact h
theorem CapAt.new {k:Nat} {sz:Nat} {rows:List (List AV)} {s r:Heap} {n:Nat} (hs:s.length=n) (j:Nat) (hj:r[j]?=some .tok):CapAt k (.tok (n+j+k) sz) sz rows (s ++ r):=⟨rfl,n+j,rfl,by rw [app_get hs,hj]⟩
theorem CapAt.nil (k sz:Nat) (t:Heap):CapAt k .nil sz [] t:=⟨rfl,rfl⟩
def appF (slot sz by_:Nat) (x y:AV) (h:Heap):Option (AV × Heap) :=
 match slen y with
  | none=>none
  | some n=>if ssz sz y=true then (match x with
   | .is rows cap=>if n=0 then some (.is rows cap,h) else if roomy (rows.length+n) by_=true then (match scellsF y h with
    | some ys=>if (imm.immL ys && ys.all isSc)=true then if roomOK cap sz rows h=true then newF slot .tok (.is (rows ++ chunk sz n (strip.stripL ys)) (.tok slot sz)) (spend cap h) else none else none
    | none=>none) else none
   | .ms id off len s cap ex=>if n=0 then some (.ms id off len s cap ex,h) else if (s == sz && roomy (len+n) by_)=true then (match scellsF y h with
    | some ys=>if ys.all isSc=true then (match cellsF h[id]? with
     | some cs=>if off+len*s≤cs.length then
       if len+n≤cap then if off+len*s+ys.length≤cs.length then some (.ms id off (len+n) s cap ex,h.set id (.cells (splice cs (off+len*s) ys))) else none
       else if ex=true then newF slot (.cells ((cs.drop off).take (len*s) ++ ys)) (.ms slot 0 (len+n) s (len+n) false) h
       else newF slot (.cells ((cs.drop off).take (len*s) ++ ys)) (.ms slot 0 (len+n) s (len+n) false) (h.set id .dead)
      else none
     | none=>none) else none
    | none=>none) else none
   | _=>none) else none
theorem stepF_appendF (A:Tab) (d:Bool) (slot:Nat) (e:Env) (h:Heap) (sz by_:Nat) (x y:AO):stepF A d slot (.append true sz by_ x y) e h=appF slot sz by_ (ev e x) (ev e y) h:=stepF_appendV ..
def RowOK (sz:Nat) (row:List AV):Prop:=row.length=sz∧imm.immL row=true∧row.all isSc=true∧strip.stripL row=row
theorem immL_app (a b:List AV):imm.immL (a ++ b)=(imm.immL a && imm.immL b):=by
 induction a with
 | nil=>rfl
 | cons x r ih=>simp [imm.immL,ih,Bool.and_assoc]
theorem stripL_app (a b:List AV):strip.stripL (a ++ b)=strip.stripL a ++ strip.stripL b:=by simp [stripL_map]
theorem rows_flat {sz:Nat}:∀ {ys:List (List AV)},(∀ r ∈ ys,RowOK sz r)→imm.immL ys.flatten=true∧ys.flatten.all isSc=true∧strip.stripL ys.flatten=ys.flatten∧∀ r ∈ ys,r.length=sz:=by
 intro ys
 induction ys with
 | nil=>intro _;exact ⟨rfl,rfl,rfl,fun r hr=>by cases hr⟩
 | cons y r ih =>
  intro h
  obtain ⟨h1,h2,h3,h4⟩:=ih (fun q hq=>h q (by simp [hq]))
  obtain ⟨g1,g2,g3,g4⟩:=h y (by simp)
  refine ⟨by simp only [List.flatten_cons,immL_app,g2,h1,Bool.and_self],by simp only [List.flatten_cons,List.all_append,g3,h2,Bool.and_self],by rw [List.flatten_cons,stripL_app,g4,h3],?_⟩
  intro q hq
  rcases List.mem_cons.1 hq with rfl|hq
  ·exact g1
  ·exact h4 q hq
theorem appF_none (slot sz by_:Nat) (rows:List (List AV)) (cap c2:Cap) (h:Heap):appF slot sz by_ (.is rows cap) (.is [] c2) h=some (.is rows cap,h):=by simp [appF,slen,ssz,rowsz]
theorem appF_rows (slot sz by_:Nat) (rows:List (List AV)) {ys:List (List AV)} (cap c2:Cap) (h:Heap) (hy:∀ r ∈ ys,RowOK sz r) (hn:ys≠[]):appF slot sz by_ (.is rows cap) (.is ys c2) h =
  if roomy (rows.length+ys.length) by_=true then if roomOK cap sz rows h=true then newF slot .tok (.is (rows ++ ys) (.tok slot sz)) (spend cap h) else none else none:=by
 obtain ⟨h1,h2,h3,h4⟩:=rows_flat hy
 have h5:ys.length≠0:=fun q=>hn (List.eq_nil_of_length_eq_zero q)
 have h6:rowsz sz ys=true:=by simpa [rowsz] using h4
 simp only [appF,slen,ssz,h6,if_true,if_neg h5,scellsF,h1,h2,Bool.and_self,h3,chunk_flatten h4]
theorem appF_row (slot sz by_:Nat) (rows:List (List AV)) (row:List AV) (cap c2:Cap) (h:Heap):appF slot sz by_ (.is rows cap) (.is [row] c2) h =
  if row.length=sz∧imm.immL row=true∧row.all isSc=true then if roomy (rows.length+1) by_=true then if roomOK cap sz rows h=true then newF slot .tok (.is (rows ++ [strip.stripL row]) (.tok slot sz)) (spend cap h) else none else none else none:=by
 by_cases h1:row.length=sz
 ·have h2:rowsz sz [row]=true:=by simp [rowsz,h1]
  by_cases h3:imm.immL row=true∧row.all isSc=true
  ·have h4:chunk sz 1 (strip.stripL row)=[strip.stripL row]:=by
    have:(strip.stripL row).length=sz:=by rw [stripL_len];exact h1
    simp [chunk,← this]
   have h5:(List.flatten [row])=row:=by simp
   rw [if_pos ⟨h1,h3⟩]
   simp only [appF,slen,ssz,h2,if_true,List.length_cons,List.length_nil,Nat.zero_add,scellsF,h5,h3.1,h3.2,Bool.and_self,h4]
   simp
  ·rw [if_neg (fun q=>h3 q.2)]
   have h5:(List.flatten [row])=row:=by simp
   have h6:¬ ((imm.immL row && row.all isSc)=true):=by simpa using h3
   simp only [appF,slen,ssz,h2,if_true,List.length_cons,List.length_nil,Nat.zero_add,scellsF,h5,if_neg h6]
   simp
 ·rw [if_neg (fun q=>h1 q.1)]
  have h2:¬ rowsz sz [row]=true:=by simp [rowsz,h1]
  have h3:ssz sz (.is [row] c2)=false:=by simpa [ssz] using h2
  simp only [appF,slen,h3]
  rfl
theorem Brun_told {A:Tab} {nt:Nat} {ops:List AOper} {keep:List Nat} {n:Nat} {e:Env} {h:Heap} {r:Ex × Env × Heap}
  (hp:match asteps (Acall A) (isPure A) nt h.length ops e (h ++ List.replicate n .free) with
   | some (e',h',rs)=>drawOK 0 (ops.zip rs)=true∧(.normal,ofL (keep.map fun k=>(k,e' k)),h')=r
   | none=>False):Brun A nt (.region true ops keep n) e h=some r:=by
 cases hs:asteps (Acall A) (isPure A) nt h.length ops e (h ++ List.replicate n .free) with
 | none=>rw [hs] at hp;exact hp.elim
 | some q =>
  obtain ⟨e',h',rs⟩:=q
  rw [hs] at hp
  rw [Brun_drawn hs hp.1,hp.2]
def turn (h:Heap):List (Nat × Blk)→Heap→Heap
 | [],r=>h ++ r
 | (i,b) :: l,r=>turn (h.set i b) l r
def reckon (A:Tab) (k nt:Nat) (draw:Bool) (ops:List AOper) (keep:List Nat) (n:Nat) (e:Env) (h:Heap):Option (List (Nat × AV) × Heap) :=
 match asteps (acall A k) (isPure A) nt h.length ops e (h ++ List.replicate n .free) with
 | some (e',h',rs)=>if (!draw || drawOK 0 (ops.zip rs))=true then some (keep.map fun t=>(t,e' t),h') else none
 | none=>none
theorem Brun_reckoned {A:Tab} {k nt:Nat} {draw:Bool} {ops:List AOper} {keep:List Nat} {n:Nat} {e:Env} {h h':Heap} {E:List (Nat × AV)} (hr:reckon A k nt draw ops keep n e h=some (E,h')) :
  Brun A nt (.region draw ops keep n) e h=some (.normal,ofL E,h'):=by
 have hk:arun (acall A k) (isPure A) nt k (.region draw ops keep n) ⟨e,h,[]⟩=some (.normal,⟨ofL E,h',match asteps (acall A k) (isPure A) nt h.length ops e (h ++ List.replicate n .free) with|some (_,_,rs)=>logOf rs []|none=>[]⟩):=by
  unfold reckon at hr
  simp only [arun,aregion]
  split at hr
  ·rename_i e' h1 rs hs
   split at hr
   ·rename_i hd
    cases hr
    simp only [hs,hd,if_true,prune_ofL,Option.map_some]
   ·cases hr
  ·cases hr
 unfold Brun
 rw [Arun_iff.2 ⟨k,hk⟩]
 rfl
theorem iB {α:Type} {c:Prop} [Decidable c] {x y r:α} (h1:c→x=r) (h2:¬ c→y=r):(if c then x else y)=r:=by
 by_cases h:c
 ·rw [if_pos h];exact h1 h
 ·rw [if_neg h];exact h2 h
theorem amLt (a b:Int):a<b↔¬ b≤a:=Int.not_le.symm
theorem ap4:(∀ {α:Type} {s r:List α} {n:Nat},s.length=n→∀ j,(s++r)[n+j]?=r[j]?)∧(∀ {α:Type} {s r:List α} {n:Nat},s.length=n→(s++r)[n]?=r[0]?)∧(∀ {α:Type} {s r:List α} {n:Nat},s.length=n→∀ j x,(s++r).set (n+j) x=s++r.set j x)∧(∀ {α:Type} {s r:List α} {n:Nat},s.length=n→∀ x,(s++r).set n x=s++r.set 0 x):=⟨app_get,app_get0,app_set,app_set0⟩
attribute [congr] andF_cg onF_cg bthen_cg bkeep_cg bcond_cg guardV_cg putF_cg guardF_cg ite_cg stepsF_cg
attribute [simp] Brun_skip Brun_exit Brun_ret Brun_seq Brun_cond Brun_block Brun_region bthen_normal bthen_ret bthen_exit bblock_normal bblock_ret bblock_exit bkeep_some andF_some onF_some onF_none guardF_none guardF_some guardV_tup putF_some putF_none stepsF_nil stepsF_cons upd_apply ofL_cons ofL_nil bown_normal bown_ret banswer_normal banswer_ret aresults ares List.replicate stepF_call stepF_callD stepF_move stepF_pick stepF_alloc stepF_allocV stepF_box stepF_boxV stepF_build stepF_buildSlice stepF_buildSliceV stepF_load stepF_store stepF_nilCheck stepF_bin stepF_eq stepF_un stepF_conv stepF_strId strIdV_str strIdV_int stepF_toStr stepF_toBytes stepF_fn stepF_mkSlice stepF_slice stepF_strSlice stepF_fieldAddr stepF_field stepF_idxAddr stepF_idxArr stepF_index stepF_strIndex stepF_extract stepF_len0 stepF_len1 stepF_min stepF_max stepF_append stepF_appendF appF_none appF_row stepF_mkMap stepF_mkIface stepF_lookup stepF_mapUpdate stepF_ext aext_idx aext_count aext_same cellsF newF abin_add abin_sub abin_mul abin_quo abin_rem abin_eql abin_neq abin_lss abin_leq abin_gtr abin_geq abin_and abin_or abin_xor abin_shl abin_shr abin_seql abin_sneq aun_not aun_neg aeq_bool aeq_agg eqCells_nil eqCells_int eqCells_bool eqCells_str cellsOf_agg cellsOf_int cellsOf_bool cellsOf_str cellsOf_is cellsOf_ms cellsOf_fn cellsOf_nilp cellsOf_mp cellsOf_mm cellsOf_nilm cellsOf_nili cellsOf_ifc cellsOf_ip cget_one cget_agg ev_t ev_c fillp_nil fillp_cons isSc_int isSc_bool isSc_str isSc_is isSc_ms isSc_fn isSc_mm isSc_mp isSc_ip isSc_nilp isSc_nilm isSc_nili isSc_nilf isSc_ifc splice chunk strip strip.stripL imm imm.immL Areify_int Areify_bool Areify_str Areify_is Areify_nilp Areify_tup Areify_agg AreifyL andF_chi andF_ch onF_chi onF_ch bthen_ch bthen_chi bblock_ch bblock_chi bkeep_ch bkeep_chi bown_ch bown_chi banswer_ch banswer_chi isSome_ch bcond_ch guardV_ch1 guardV_ch0 chF_true chF_false chF_not
attribute [simp ↓] andF_some andF_chi andF_ch onF_some onF_none onF_chi onF_ch bthen_normal bthen_ret bthen_exit bthen_ch bthen_chi bblock_normal bblock_ret bblock_exit bblock_ch bblock_chi bkeep_some bkeep_ch bkeep_chi bown_normal bown_ret bown_ch bown_chi banswer_normal banswer_ret banswer_ch banswer_chi bcond_ch guardV_ch1 guardV_ch0 guardV_tup guardF_none guardF_some putF_some putF_none stepsF_nil stepsF_cons chF_true chF_false Brun_seq Brun_cond Brun_block Brun_region Brun_skip Brun_ret Brun_exit stepF_call stepF_callD stepF_move stepF_pick stepF_alloc stepF_allocV stepF_box stepF_boxV stepF_build stepF_buildSlice stepF_buildSliceV stepF_load stepF_store stepF_nilCheck stepF_bin stepF_eq stepF_un stepF_conv stepF_strId stepF_toStr stepF_toBytes stepF_fn stepF_mkSlice stepF_slice stepF_strSlice stepF_fieldAddr stepF_field stepF_idxAddr stepF_idxArr stepF_index stepF_strIndex stepF_extract stepF_len0 stepF_len1 stepF_min stepF_max stepF_append stepF_appendF stepF_mkMap stepF_mkIface stepF_lookup stepF_mapUpdate stepF_ext
end Go.AM
