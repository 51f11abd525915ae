/- The abstract machine: what an operation answers is what the model's operation answers. First part: words. -/
import Derived.Test.YtfhijkapcdmdnaaGreatDoorAmB
import Derived.Test.YtfhijkapcdmdnaaGreatDoorAmC
import Derived.Laws.IdiomCopy
import Derived.Laws.Entries
namespace Go.AM
variable {G:GTab}
def GOK (G:GTab) (w:World) (im:Imm):Prop:=(∀ g row,G.gl g=some row→IR w im (.ip row 0) (.pointer (some ⟨g,0,none⟩))∧∃ e,w.shape? g=some (e,row.length)) ∧
 ∀ g ∈ G.ints,im g 0∧∃ m,w.cell? ⟨g,0,none⟩=some (.int .i64 m)
theorem GOK.mono {G:GTab} {w w':World} {im im':Imm} (hh:∀ b o,im b o→w'.cell? ⟨b,o,none⟩=w.cell? ⟨b,o,none⟩) (hs:∀ b s,w.shape? b=some s→w'.shape? b=some s) (hm:∀ b o,im b o→im' b o) (h:GOK G w im):GOK G w' im' :=
 ⟨fun g row hg=>⟨(h.1 g row hg).1.mono hh hm,by obtain ⟨e,he⟩:=(h.1 g row hg).2;exact ⟨e,hs _ _ he⟩⟩,fun g hg=>by obtain ⟨h1,m,h2⟩:=h.2 g hg;exact ⟨hm _ _ h1,m,by rw [hh _ _ h1];exact h2⟩⟩
def ER (G:GTab) (w:World) (phi:Phi) (im:Imm) (env:Env) (t:Array Value):Prop:=(∀ n,VR w phi im (env n) (t.getD n Go.undef))∧GOK G w im
def Good (P:Program) (o:Oper) (a:Act) (w:World) (phi:Phi) (im:Imm) (v:AV) (h':Heap):Prop :=
 ∃ n rv w' phi' im',(execOp a.eval o).run P w = .ok n w'∧(n = .value rv∨(n = .skip∧rv=Go.undef))∧VR w' phi' im' v rv∧SR w' phi' im' h'∧Post w phi im w' phi' im'
theorem Good.here {P:Program} {o:Oper} {a:Act} {w:World} {phi:Phi} {im:Imm} {v:AV} {h:Heap} {rv:Value} (s:SR w phi im h)
  (e:(execOp a.eval o).run P w = .ok (.value rv) w) (r:VR w phi im v rv):Good P o a w phi im v h :=
 ⟨_,rv,w,phi,im,e,.inl rfl,r,s,Post.refl _ _ _⟩
theorem compS_ok {w:World} {im:Imm} {v:Value} {x:AV} (h:compS v=some x):IR w im x v:=by
 unfold compS at h
 split at h<;>cases h
 ·exact .int _ _
 ·exact .bool _
 ·rename_i s
  have:s=⟨s.data.toList.toArray⟩:=by cases s;simp
  rw [this]
  simpa using IR.str (w:=w) (im:=im) s.data.toList
 ·exact .nilp
 ·exact .is [] .nil none 0 0 0 0 (fun _ _=>Go.undef) (fun h=>by omega) ⟨rfl,rfl⟩ (fun row hr=>by simp at hr) (Nat.le_refl _) (fun i row j x h=>by simp at h) (fun i row j x h=>by simp at h) (fun i row j x h=>by simp at h)
 ·exact .nilm
 ·exact .nilf
 ·exact .nili
theorem compL_ok {w:World} {im:Imm}:∀ {l:List Value} {m:List AV},compL l=some m→m.length=l.length∧∀ (i:Nat) x,m[i]?=some x→∃ v,l[i]?=some v∧IR w im x v:=by
 intro l
 induction l with
 | nil=>intro m h;cases h;exact ⟨rfl,fun i x hx=>by simp at hx⟩
 | cons v r ih =>
  intro m h
  simp only [compL] at h
  split at h
  ·rename_i x l' h1 h2
   cases h
   obtain ⟨hl,hr⟩:=ih h2
   refine ⟨by simp [hl],fun i y hy=>?_⟩
   cases i with
   | zero=>simp at hy;subst hy;exact ⟨v,rfl,compS_ok h1⟩
   | succ i=>simp at hy;obtain ⟨u,hu,hv⟩:=hr i y hy;exact ⟨u,by simpa using hu,hv⟩
  ·cases h
theorem compV_ok {w:World} {im:Imm} {v:Value} {x:AV} (h:compV v=some x):IR w im x v:=by
 unfold compV at h
 split at h
 ·rename_i cs
  simp only [Option.map_eq_some_iff] at h
  obtain ⟨m,hm,rfl⟩:=h
  obtain ⟨hl,hr⟩:=compL_ok (w:=w) (im:=im) hm
  refine .agg m cs (by simp [hl]) fun i y hy=>?_
  obtain ⟨u,hu,hv⟩:=hr i y hy
  have:cs.getD i Go.undef=u:=by simp [Array.getD_eq_getD_getElem?,← Array.getElem?_toList,hu]
  rw [this];exact hv
 ·exact compS_ok h
theorem compO_ok {w:World} {phi:Phi} {im:Imm} {env:Env} {a:Act} (e:ER G w phi im env a.tmps) {o:Operand} {x:AO} (h:compO G o=some x):VR w phi im (ev env x) (a.eval o):=by
 cases o with
 | tmp t=>cases h;exact e.1 t
 | const v =>
  simp only [compO,Option.map_eq_some_iff] at h
  obtain ⟨y,hy,rfl⟩:=h
  exact .imm (compV_ok hy)
 | global g =>
  simp only [compO,Option.map_eq_some_iff] at h
  obtain ⟨row,hg,rfl⟩:=h
  exact .imm (e.2.1 g row hg).1
 | func f=>cases h;exact .imm (.fn f [] [] #[] #[] rfl (fun i x hx=>by simp at hx) rfl fun i x hx=>by simp at hx)
theorem VR.int_inv {w:World} {phi:Phi} {im:Imm} {k:IntKind} {n:Int} {v:Value} (h:VR w phi im (.int k n) v):v = .int k n:=by
 cases h with|imm h=>cases h;rfl
theorem VR.bool_inv {w:World} {phi:Phi} {im:Imm} {b:Bool} {v:Value} (h:VR w phi im (.bool b) v):v = .bool b:=by
 cases h with|imm h=>cases h;rfl
theorem VR.str_inv {w:World} {phi:Phi} {im:Imm} {s:List UInt8} {v:Value} (h:VR w phi im (.str s) v):v = .string ⟨s.toArray⟩:=by
 cases h with|imm h=>cases h;rfl
theorem VR.nilp_inv {w:World} {phi:Phi} {im:Imm} {v:Value} (h:VR w phi im .nilp v):v = .pointer none:=by
 cases h with|imm h=>cases h;rfl
theorem VR.nilm_inv {w:World} {phi:Phi} {im:Imm} {v:Value} (h:VR w phi im .nilm v):v = .map none:=by
 cases h with|imm h=>cases h;rfl
theorem VR.nilf_inv {w:World} {phi:Phi} {im:Imm} {v:Value} (h:VR w phi im .nilf v):v = .nilFunc:=by
 cases h with|imm h=>cases h;rfl
theorem VR.mp_inv {w:World} {phi:Phi} {im:Imm} {id off:Nat} {v:Value} (h:VR w phi im (.mp id off) v):∃ b sh,phi id=some (b,sh)∧v = .pointer (some ⟨b,sh+off,none⟩):=by
 cases h with
 | imm h=>cases h
 | mp _ _ b sh h=>exact ⟨b,sh,h,rfl⟩
theorem VR.mm_inv {w:World} {phi:Phi} {im:Imm} {id:Nat} {v:Value} (h:VR w phi im (.mm id) v):∃ b,phi id=some (b,0)∧v = .map (some b):=by
 cases h with
 | imm h=>cases h
 | mm _ b h=>exact ⟨b,h,rfl⟩
theorem VR.ip_inv {w:World} {phi:Phi} {im:Imm} {row:List AV} {off:Nat} {v:Value} (h:VR w phi im (.ip row off) v):IR w im (.ip row off) v:=by
 cases h with|imm h=>exact h
def Room (w:World) (phi:Phi) (rows:List (List AV)) (base:Option Addr) (b o sz rcap:Nat):Cap→Prop
 | .no=>True
 | .nn=>base.isSome=true
 | .nil=>base=none∧rcap=0
 | .full=>rcap=rows.length
 | .tok id s=>s=sz∧phi id=some (b,o+rows.length*sz)∧∃ e n,w.shape? b=some (e,n)∧o+rcap*sz≤n
theorem VR.is_inv {w:World} {phi:Phi} {im:Imm} {rows:List (List AV)} {cap:Cap} {v:Value} (h:VR w phi im (.is rows cap) v) :
  ∃ (base:Option Addr) (b o sz rcap:Nat) (vs:Nat→Nat→Value),v = .slice base rows.length rcap∧(0<rcap→base=some ⟨b,o,none⟩)∧(∀ row ∈ rows,row.length=sz)∧rows.length≤rcap ∧
   (∀ i row j x,rows[i]?=some row→row[j]?=some x→im b (o+i*sz+j)) ∧
   (∀ i row j x,rows[i]?=some row→row[j]?=some x→w.cell? ⟨b,o+i*sz+j,none⟩=some (vs i j)) ∧
   (∀ i row j x,rows[i]?=some row→row[j]?=some x→IR w im x (vs i j))∧Room w phi rows base b o sz rcap cap:=by
 cases h with
 | imm h =>
  cases h with
  | is _ _ base b o sz rcap vs hb ht hz hl hi hc hr =>
   refine ⟨base,b,o,sz,rcap,vs,rfl,hb,hz,hl,hi,hc,hr,?_⟩
   cases cap with
   | tok id s=>exact ht.elim
   | _=>exact ht
 | ist _ id sz base b o rcap e n vs hb h hs hn hz hl hi hc hr=>exact ⟨base,b,o,sz,rcap,vs,rfl,hb,hz,hl,hi,hc,hr,rfl,h,e,n,hs,hn⟩
theorem VR.is_mk {w:World} {phi:Phi} {im:Imm} {rows:List (List AV)} {cap:Cap} {base:Option Addr} {b o sz rcap:Nat} {vs:Nat→Nat→Value} (hb:0<rcap→base=some ⟨b,o,none⟩) (hz:∀ row ∈ rows,row.length=sz) (hl:rows.length≤rcap)
  (hi:∀ i row j x,rows[i]?=some row→row[j]?=some x→im b (o+i*sz+j))
  (hc:∀ i row j x,rows[i]?=some row→row[j]?=some x→w.cell? ⟨b,o+i*sz+j,none⟩=some (vs i j))
  (hr:∀ i row j x,rows[i]?=some row→row[j]?=some x→IR w im x (vs i j)) (hcap:Room w phi rows base b o sz rcap cap):VR w phi im (.is rows cap) (.slice base rows.length rcap):=by
 cases cap with
 | no=>exact .imm (.is rows .no base b o sz rcap vs hb hcap hz hl hi hc hr)
 | nn=>exact .imm (.is rows .nn base b o sz rcap vs hb hcap hz hl hi hc hr)
 | nil=>exact .imm (.is rows .nil base b o sz rcap vs hb hcap hz hl hi hc hr)
 | full=>exact .imm (.is rows .full base b o sz rcap vs hb hcap hz hl hi hc hr)
 | tok id s =>
  obtain ⟨rfl,h1,e,n,h2,h3⟩:=hcap
  exact .ist rows id s base b o rcap e n vs hb h1 h2 h3 hz hl hi hc hr
theorem VR.is_no {w:World} {phi:Phi} {im:Imm} {rows:List (List AV)} {cap:Cap} {v:Value} (h:VR w phi im (.is rows cap) v):IR w im (.is rows .no) v:=by
 obtain ⟨base,b,o,sz,rcap,vs,rfl,hb,hz,hl,hi,hc,hr,_⟩:=h.is_inv
 exact .is rows .no base b o sz rcap vs hb trivial hz hl hi hc hr
theorem VR.nil_split {w:World} {phi:Phi} {im:Imm} {cap:Cap} {v:Value} (h:VR w phi im (.is [] cap) v):IR w im (.is [] .nil) v∨IR w im (.is [] .nn) v∨∃ rcap,v = .slice none 0 rcap∧rcap≠0:=by
 obtain ⟨base,b,o,sz,rcap,vs,rfl,hb,hz,hl,hi,hc,hr,_⟩:=h.is_inv
 cases base with
 | none =>
  rcases Nat.eq_zero_or_pos rcap with q|q
  ·exact .inl (.is [] .nil none b o sz rcap vs hb ⟨rfl,q⟩ hz hl hi hc hr)
  ·exact .inr (.inr ⟨rcap,rfl,by omega⟩)
 | some ad=>exact .inr (.inl (.is [] .nn (some ad) b o sz rcap vs hb rfl hz hl hi hc hr))
theorem immL_spec:∀ {l:List AV},imm.immL l=true→∀ (i:Nat) x,l[i]?=some x→Go.AM.imm x=true:=by
 intro l
 induction l with
 | nil=>intro _ i x hx;simp at hx
 | cons y r ih =>
  intro h i x hx
  simp only [imm.immL,Bool.and_eq_true] at h
  cases i with
  | zero=>simp at hx;subst hx;exact h.1
  | succ i=>exact ih h.2 i x (by simpa using hx)
theorem stripL_get:∀ {l:List AV} {i:Nat} {y:AV},(strip.stripL l)[i]?=some y→∃ x,l[i]?=some x∧y=strip x:=by
 intro l
 induction l with
 | nil=>intro i y h;simp [strip.stripL] at h
 | cons x r ih =>
  intro i y h
  simp only [strip.stripL] at h
  cases i with
  | zero=>simp at h;exact ⟨x,rfl,h.symm⟩
  | succ i=>simp at h;obtain ⟨z,h1,h2⟩:=ih h;exact ⟨z,by simpa using h1,h2⟩
theorem stripL_len:∀ {l:List AV},(strip.stripL l).length=l.length:=by
 intro l
 induction l with
 | nil=>rfl
 | cons x r ih=>simp [strip.stripL,ih]
theorem stripL_map:∀ (l:List AV),strip.stripL l=l.map strip:=by
 intro l
 induction l with
 | nil=>rfl
 | cons x r ih=>simp [strip.stripL,ih]
theorem stripL_all {l:List AV} {us:Array Value} {w:World} {im:Imm} (h:∀ (i:Nat) x,l[i]?=some x→IR w im (strip x) (us.getD i Go.undef)):∀ (i:Nat) x,(strip.stripL l)[i]?=some x→IR w im x (us.getD i Go.undef):=by
 intro i x hx
 obtain ⟨y,h1,rfl⟩:=stripL_get hx
 exact h i y h1
theorem IR.strip {w:World} {im:Imm} {x:AV} {v:Value} (h:IR w im x v):IR w im (Go.AM.strip x) v:=by
 induction h with
 | undef v=>exact .undef v
 | int k n=>exact .int k n
 | bool b=>exact .bool b
 | str s=>exact .str s
 | nilp=>exact .nilp
 | ip row off b o vs ho hi hc hr _=>exact .ip row off b o vs ho hi hc hr
 | is rows cap base b o sz rcap vs hb ht hz hl hi hc hr _=>exact .is rows .no base b o sz rcap vs hb trivial hz hl hi hc hr
 | fn f first caps us vs hm hq hn hr ihq ih=>exact .fn f _ _ us vs (by rw [stripL_len];exact hm) (stripL_all ihq) (by rw [stripL_len];exact hn) (stripL_all ih)
 | nilf=>exact .nilf
 | nilm=>exact .nilm
 | nili=>exact .nili
 | ifc t x v hr ih=>exact .ifc t _ v ih
 | agg cs vs hn hr ih=>exact .agg _ vs (by rw [stripL_len];exact hn) (stripL_all ih)
 | tup cs vs hn hr ih=>exact .tup _ vs (by rw [stripL_len];exact hn) (stripL_all ih)
theorem VR.to_imm {w:World} {phi:Phi} {im:Imm} {x:AV} {v:Value} (h:VR w phi im x v):Go.AM.imm x=true→IR w im (Go.AM.strip x) v:=by
 induction h with
 | imm h=>exact fun _=>h.strip
 | mp id off b sh h=>intro hi;cases hi
 | ist rows id sz base b o rcap e n vs hb h hs hn hz hl hi hc hr=>exact fun _ => .is rows .no base b o sz rcap vs hb trivial hz hl hi hc hr
 | ms id off len sz cap ex b sh o rcap e n h ho hs hn hc hx hl=>intro hi;cases hi
 | mm id b h=>intro hi;cases hi
 | fn f first caps us vs hm hq hn hr ihq ih =>
  intro hi
  simp only [Go.AM.imm,Bool.and_eq_true] at hi
  exact .fn f _ _ us vs (by rw [stripL_len];exact hm) (stripL_all fun i x hx=>ihq i x hx (immL_spec hi.1 i x hx)) (by rw [stripL_len];exact hn) (stripL_all fun i x hx=>ih i x hx (immL_spec hi.2 i x hx))
 | ifc t x v hr ih=>intro hi;exact .ifc t _ v (ih (by simpa [Go.AM.imm] using hi))
 | agg cs vs hn hr ih=>intro hi;exact .agg _ vs (by rw [stripL_len];exact hn) (stripL_all fun i x hx=>ih i x hx (immL_spec (by simpa [Go.AM.imm] using hi) i x hx))
 | tup cs vs hn hr ih=>intro hi;exact .tup _ vs (by rw [stripL_len];exact hn) (stripL_all fun i x hx=>ih i x hx (immL_spec (by simpa [Go.AM.imm] using hi) i x hx))
theorem VR.agg_inv {w:World} {phi:Phi} {im:Imm} {cs:List AV} {v:Value} (h:VR w phi im (.agg cs) v) :
  ∃ vs:Array Value,v = .agg vs∧vs.size=cs.length∧∀ (i:Nat) x,cs[i]?=some x→VR w phi im x (vs.getD i Go.undef):=by
 cases h with
 | imm h=>cases h with|agg _ vs hn hr=>exact ⟨vs,rfl,hn,fun i x hx => .imm (hr i x hx)⟩
 | agg _ vs hn hr=>exact ⟨vs,rfl,hn,hr⟩
theorem VR.tup_inv {w:World} {phi:Phi} {im:Imm} {cs:List AV} {v:Value} (h:VR w phi im (.tup cs) v) :
  ∃ vs:Array Value,v = .tuple vs∧vs.size=cs.length∧∀ (i:Nat) x,cs[i]?=some x→VR w phi im x (vs.getD i Go.undef):=by
 cases h with
 | imm h=>cases h with|tup _ vs hn hr=>exact ⟨vs,rfl,hn,fun i x hx => .imm (hr i x hx)⟩
 | tup _ vs hn hr=>exact ⟨vs,rfl,hn,hr⟩
theorem VR.fn_inv {w:World} {phi:Phi} {im:Imm} {f:Nat} {ms cs:List AV} {v:Value} (h:VR w phi im (.fn f ms cs) v) :
  ∃ us vs:Array Value,v = .func (.func f) us vs∧us.size=ms.length∧(∀ (i:Nat) x,ms[i]?=some x→VR w phi im x (us.getD i Go.undef))∧vs.size=cs.length∧∀ (i:Nat) x,cs[i]?=some x→VR w phi im x (vs.getD i Go.undef):=by
 cases h with
 | imm h=>cases h with|fn _ _ _ us vs hm hq hn hr=>exact ⟨us,vs,rfl,hm,fun i x hx => .imm (hq i x hx),hn,fun i x hx => .imm (hr i x hx)⟩
 | fn _ _ _ us vs hm hq hn hr=>exact ⟨us,vs,rfl,hm,hq,hn,hr⟩
theorem VR.ifc_inv {w:World} {phi:Phi} {im:Imm} {t:Nat} {x:AV} {v:Value} (h:VR w phi im (.ifc t x) v):∃ u,v = .iface t u∧VR w phi im x u:=by
 cases h with
 | imm h=>cases h with|ifc _ _ u hr=>exact ⟨u,rfl,.imm hr⟩
 | ifc _ _ u hr=>exact ⟨u,rfl,hr⟩
theorem VR.nili_inv {w:World} {phi:Phi} {im:Imm} {v:Value} (h:VR w phi im .nili v):v = .nilIface:=by
 cases h with|imm h=>cases h;rfl
theorem VR.ms_inv {w:World} {phi:Phi} {im:Imm} {id off len sz cap:Nat} {ex:Bool} {v:Value} (h:VR w phi im (.ms id off len sz cap ex) v) :
  ∃ b sh o rcap e n,v = .slice (some ⟨b,o,none⟩) len rcap∧phi id=some (b,sh)∧(0<rcap→o=sh+off)∧w.shape? b=some (e,n)∧o+rcap*sz≤n∧cap≤rcap∧(ex=true→rcap=cap)∧len≤cap:=by
 cases h with
 | imm h=>cases h
 | ms _ _ _ _ _ _ b sh o rcap e n h ho hs hn hc hx hl=>exact ⟨b,sh,o,rcap,e,n,rfl,h,ho,hs,hn,hc,hx,hl⟩
theorem VR.int {w:World} {phi:Phi} {im:Imm} (k:IntKind) (n:Int):VR w phi im (.int k n) (.int k n):= .imm (.int k n)
theorem VR.bool {w:World} {phi:Phi} {im:Imm} (b:Bool):VR w phi im (.bool b) (.bool b):= .imm (.bool b)
theorem VR.str {w:World} {phi:Phi} {im:Imm} (s:List UInt8):VR w phi im (.str s) (.string ⟨s.toArray⟩):= .imm (.str s)
theorem VR.undef {w:World} {phi:Phi} {im:Imm} (v:Value):VR w phi im .undef v:= .imm (.undef v)
theorem cellsOf_ok {w:World} {phi:Phi} {im:Imm} {x:AV} {v:Value} (h:VR w phi im x v) {cs:List AV} (hc:cellsOf x=some cs) :
  v.cells.size=cs.length∧∀ (i:Nat) y,cs[i]?=some y→VR w phi im y (v.cells.getD i Go.undef):=by
 have one:cs=[x]→(v.cells=#[v])→v.cells.size=cs.length∧∀ (i:Nat) y,cs[i]?=some y→VR w phi im y (v.cells.getD i Go.undef):=by
  rintro rfl e
  rw [e]
  refine ⟨rfl,fun i y hy=>?_⟩
  cases i with
  | zero=>simp at hy;subst hy;simpa using h
  | succ i=>simp at hy
 cases x with
 | undef=>cases hc
 | tup _=>cases hc
 | agg l =>
  cases hc
  obtain ⟨vs,rfl,hn,hr⟩:=h.agg_inv
  exact ⟨hn,hr⟩
 | int k n=>cases hc;exact one rfl (by rw [h.int_inv];rfl)
 | bool b=>cases hc;exact one rfl (by rw [h.bool_inv];rfl)
 | str s=>cases hc;exact one rfl (by rw [h.str_inv];rfl)
 | nilp=>cases hc;exact one rfl (by rw [h.nilp_inv];rfl)
 | ip row off=>cases hc;exact one rfl (by cases h.ip_inv;rfl)
 | mp id off=>cases hc;exact one rfl (by obtain ⟨b,sh,_,rfl⟩:=h.mp_inv;rfl)
 | is rows cap=>cases hc;exact one rfl (by obtain ⟨base,b,o,sz,rcap,vs,rfl,_⟩:=h.is_inv;rfl)
 | ms id off len sz cap ex=>cases hc;exact one rfl (by obtain ⟨b,sh,o,rcap,e,n,rfl,_⟩:=h.ms_inv;rfl)
 | fn f first caps=>cases hc;exact one rfl (by obtain ⟨us,vs,rfl,_⟩:=h.fn_inv;rfl)
 | nilf=>cases hc;exact one rfl (by rw [h.nilf_inv];rfl)
 | nilm=>cases hc;exact one rfl (by rw [h.nilm_inv];rfl)
 | mm id=>cases hc;exact one rfl (by obtain ⟨b,_,rfl⟩:=h.mm_inv;rfl)
 | nili=>cases hc;exact one rfl (by cases h with|imm h=>cases h;rfl)
 | ifc t y=>cases hc;exact one rfl (by cases h with|imm h=>(cases h;rfl)|ifc _ _ _ _=>rfl)
theorem isSc_ok {w:World} {phi:Phi} {im:Imm} {x:AV} {v:Value} (h:VR w phi im x v) (hs:isSc x=true):v.oneCell'=true:=by
 cases x with
 | undef=>cases hs
 | tup _=>cases hs
 | agg l=>cases hs
 | int k n=>rw [h.int_inv];rfl
 | bool b=>rw [h.bool_inv];rfl
 | str s=>rw [h.str_inv];rfl
 | nilp=>rw [h.nilp_inv];rfl
 | ip row off=>cases h.ip_inv;rfl
 | mp id off=>obtain ⟨b,sh,_,rfl⟩:=h.mp_inv;rfl
 | is rows cap=>obtain ⟨base,b,o,sz,rcap,vs,rfl,_⟩:=h.is_inv;rfl
 | ms id off len sz cap ex=>obtain ⟨b,sh,o,rcap,e,n,rfl,_⟩:=h.ms_inv;rfl
 | fn f first caps=>obtain ⟨us,vs,rfl,_⟩:=h.fn_inv;rfl
 | nilf=>rw [h.nilf_inv];rfl
 | nilm=>rw [h.nilm_inv];rfl
 | mm id=>obtain ⟨b,_,rfl⟩:=h.mm_inv;rfl
 | nili=>cases h with|imm h=>cases h;rfl
 | ifc t y=>cases h with|imm h=>(cases h;rfl)|ifc _ _ _ _=>rfl
theorem tsize_ok {P:Program} {t:TypeId} {n:Nat} (h:tsize P t=some n) (w:World):(sizeOf t).run P w = .ok n w:=by
 simp only [tsize,Option.map_eq_some_iff] at h
 obtain ⟨i,hi,rfl⟩:=h
 simp [sizeOf,typeInfo,hi]
theorem und_ok {P:Program} {t:TypeId} {d:TypeDesc} (h:P.underlying t=some d) (w:World):(underlying t).run P w = .ok d w:=by
 simp [underlying,h]
theorem tagg_ok {P:Program} {t:TypeId} {b:Bool} (h:tagg P t=some b) (w:World):(isAgg t).run P w = .ok b w:=by
 simp only [tagg,Option.map_eq_some_iff] at h
 obtain ⟨d,hd,rfl⟩:=h
 simp only [isAgg,Sem.run_bind,und_ok hd,Result.andThen_ok]
 cases d<;>rfl
theorem zcells_ok {P:Program} {t:TypeId} {l:List AV} (h:zcells P t=some l):∃ z:Value,(∀ w,(zeroValue t).run P w = .ok z w)∧z.cells.size=l.length ∧
  ∀ (w:World) (im:Imm) (i:Nat) x,l[i]?=some x→IR w im x (z.cells.getD i Go.undef):=by
 unfold zcells at h
 split at h
 ·rename_i i hi
  split at h
  ·rename_i z hz
   refine ⟨z,fun w=>by simp [zeroValue,typeInfo,hi,hz],by simpa using (compL_ok (w:=default) (im:=fun _ _=>True) h).1.symm,fun w im j x hx=>?_⟩
   obtain ⟨u,hu,hv⟩:=(compL_ok (w:=w) (im:=im) h).2 j x hx
   have:z.cells.getD j Go.undef=u:=by simp [Array.getD_eq_getD_getElem?,← Array.getElem?_toList,hu]
   rw [this];exact hv
  ·cases h
 ·cases h
theorem cget_ok {P:Program} {w:World} {phi:Phi} {im:Imm} {t:TypeId} {g:Bool} {size:Nat} (hg:tagg P t=some g) (hs:tsize P t=some size) {cs:List AV} {off b o:Nat}
  (hc:∀ (j:Nat) x,cs[j]?=some x→∃ u,w.cell? ⟨b,o+j,none⟩=some u∧VR w phi im x u) {v:AV} (hv:cget g size off cs=some v) :
  ∃ rv,(loadVar t ⟨b,o+off,none⟩).run P w = .ok rv w∧VR w phi im v rv:=by
 have hadd:∀ j,(⟨b,o+off,none⟩:Addr).add j=⟨b,o+off+j,none⟩:=fun j=>by unfold Addr.add;split<;>simp_all
 unfold cget at hv
 cases g with
 | true =>
  simp only [if_true] at hv
  split at hv
  ·rename_i hle
   cases hv
   have hex:∀ j,j<size→∃ u,w.cell? ⟨b,o+off+j,none⟩=some u∧∀ x,((cs.drop off).take size)[j]?=some x→VR w phi im x u:=by
    intro j hj
    have hlt:off+j<cs.length:=by omega
    obtain ⟨u,hu,hr⟩:=hc (off+j) _ (List.getElem?_eq_getElem hlt)
    refine ⟨u,by rw [Nat.add_assoc];exact hu,fun x hx=>?_⟩
    rw [List.getElem?_take_of_lt hj,List.getElem?_drop,List.getElem?_eq_getElem hlt] at hx
    cases hx;exact hr
   let f:Nat→Value:=fun j=>(w.cell? ⟨b,o+off+j,none⟩).getD Go.undef
   have hf:∀ j,j<size→w.cell? ⟨b,o+off+j,none⟩=some (f j):=fun j hj=>by
    obtain ⟨u,hu,_⟩:=hex j hj
    simp [f,hu]
   refine ⟨.agg ((List.range size).map f).toArray,?_,.agg _ _ (by simp;omega) fun i x hx=>?_⟩
   ·simp only [loadVar,Sem.run_bind,tagg_ok hg,Result.andThen_ok,if_true,tsize_ok hs,run_loadCells w _ size f (fun j hj=>by rw [hadd];exact hf j hj)]
    rfl
   ·have hi:i<size:=by
     rcases Nat.lt_or_ge i size with q|q
     ·exact q
     ·rw [List.getElem?_eq_none (by simp;omega)] at hx;cases hx
    obtain ⟨u,hu,hr⟩:=hex i hi
    have:((List.range size).map f).toArray.getD i Go.undef=u:=by simp [Array.getD_eq_getD_getElem?,hi,f,hu]
    rw [this];exact hr x hx
  ·cases hv
 | false =>
  simp only [Bool.false_eq_true,if_false] at hv
  obtain ⟨u,hu,hr⟩:=hc off v hv
  exact ⟨u,by simp [loadVar,tagg_ok hg,hu],hr⟩
theorem SR.cell {w:World} {phi:Phi} {im:Imm} {h:Heap} (s:SR w phi im h) {id:Nat} {cs:List AV} (hi:h[id]?=some (.cells cs)) {b sh:Nat} (hp:phi id=some (b,sh)) (j:Nat) (x:AV) (hj:cs[j]?=some x) :
  ∃ u,w.cell? ⟨b,sh+j,none⟩=some u∧VR w phi im x u:=by
 obtain ⟨b',sh',c,e,fz,h1,h2,h3,h4,h5,h6⟩:=s.cells id cs hi
 rw [hp] at h1
 cases h1
 have hlt:=set_lt hj
 refine ⟨c.getD (sh+j) Go.undef,?_,h4 j x hj⟩
 have hl:sh+j<c.size:=by omega
 simp only [World.cell?,h2]
 simp [Array.getD_eq_getD_getElem?,hl]
end Go.AM
