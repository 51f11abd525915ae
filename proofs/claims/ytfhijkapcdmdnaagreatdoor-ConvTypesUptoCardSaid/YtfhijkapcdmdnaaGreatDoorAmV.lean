/- The abstract machine: from what a law's call answers over arguments of their shapes to the row's contract. -/
import Derived.Test.YtfhijkapcdmdnaaGreatDoorAmU
namespace Go.AM
variable {G:GTab}
open Go.RowKit Go.ChangeShapes
section
variable {H:Type} {enc:TypeId × Value→H} {P:Program}
def Sh.Arg (B:Nat) (s:Sh) (x:AV):Prop :=
 match s with
 | .st _=>∃ row,x = .agg row∧s.Row B row
 | .arr _ _=>∃ row,x = .agg row∧s.Row B row
 | s=>s.Row B [x]
def ArgsL (B:Nat):List Sh→List AV→Prop
 | [],xs=>xs=[]
 | s :: ss,xs=>∃ x r,xs=x :: r∧s.Arg B x∧ArgsL B ss r
def shOKs (P:Program):List TypeId→List Sh→Bool
 | [],[]=>true
 | t :: ts,s :: ss=>shOK P t s && shOKs P ts ss
 | _,_=>false
theorem trodAll_stay (hl:laidOutB P=true) {W W':World} (hb:Below W.heap.size W W'):∀ (ts:List TypeId) (vs:List Value) (ds:List (DataW H)) (ps:List MemPlace),(∀ t ∈ ts,P.readableRec t=true∧t<P.types.size) →
  DataW.TrodAll enc P W 0 (fun _=>true) true ts vs ds ps→DataW.TrodAll enc P W' 0 (fun b=>decide (b<W.heap.size)) true ts vs ds ps:=by
 intro ts
 induction ts with
 | nil =>
  intro vs ds ps _ h
  obtain ⟨rfl,rfl,rfl⟩:=trodAll_nil h
  exact trodAll_mk0
 | cons t ts ih =>
  intro vs ds ps hr h
  obtain ⟨v,vs',d,ds',p,q,rfl,rfl,rfl,h1,h2⟩:=trodAll_cons h
  have hlt:∀ x ∈ p,x.block<W.heap.size:=by obtain ⟨m,hm⟩:=h1;exact DataW.trod_lt m _ _ _ hm
  exact trodAll_cons_mk (Below.trod hl (hr t (by simp)).1 (hr t (by simp)).2 h1 hb hlt) (ih vs' ds' q (fun t' ht=>hr t' (by simp [ht])) h2)
theorem not_agg {W:World} {r:Reach} {base:Nat} {t:TypeId} {v:Value} {td:TypeDesc} (hu:P.underlying t=some td) (hok:Value.okWide P W r base t v) (hn:td = .bool∨(∃ k,td = .int k)∨td = .string∨∃ e,td = .slice e):v.cells=#[v]:=by
 unfold Value.okWide at hok
 rw [hu] at hok
 have:Cell.okWide P W r base t v:=by
  rcases hn with rfl|⟨k,rfl⟩|rfl|⟨e,rfl⟩<;>exact hok
 cases v with
 | agg cs =>
  exfalso
  unfold Cell.okWide at this
  rw [hu] at this
  rcases hn with rfl|⟨k,rfl⟩|rfl|⟨e,rfl⟩<;>(simp only [Cell.ok,hu] at this)
 | _=>rfl
theorem arg_read {B:Nat} {W:World} {r:Reach} {base:Nat} {s:Sh} {t:TypeId} {v:Value} {d:DataW H} {ps:List MemPlace} (hs:shOK P t s=true) (hok:Value.okWide P W r base t v)
  (h:DataW.Trod enc P W 0 (fun _=>true) true t v d ps) (hl:within B d=true):∃ x,s.Arg B x∧VR W (fun _=>none) (fun b _=>b<W.heap.size) x v:=by
 obtain ⟨fuel,hf⟩:=h
 obtain ⟨row,r1,r2,r3⟩:=trod_row fuel s t _ d ps hs hf hl
 have cell:s.sz=1→v.cells=#[v]→∃ x,s.Row B [x]∧VR W (fun _=>none) (fun b _=>b<W.heap.size) x v:=by
  intro hz hc
  rw [hz] at r2
  match row,r2 with
  | [x],_ =>
   refine ⟨x,r1,.imm ?_⟩
   have:=r3 0 x rfl
   rw [hc] at this
   simpa using this
 have aggr:(∃ cs,v = .agg cs∧cs.size=P.cellsOf t)→P.cellsOf t=s.sz→VR W (fun _=>none) (fun b _=>b<W.heap.size) (.agg row) v:=by
  rintro ⟨cs,rfl,hcs⟩ hz
  refine .imm (.agg row cs (by omega) fun i x hx=>?_)
  have:=r3 i x hx
  simpa [Value.cells,Array.getD_eq_getD_getElem?,List.getD_eq_getElem?_getD] using this
 cases s with
 | bool =>
  simp only [shOK] at hs
  split at hs
  ·rename_i hu;exact cell rfl (not_agg hu hok (.inl rfl))
  ·cases hs
 | int k =>
  simp only [shOK] at hs
  split at hs
  ·rename_i hu;exact cell rfl (not_agg hu hok (.inr (.inl ⟨_,rfl⟩)))
  ·cases hs
 | str =>
  simp only [shOK] at hs
  split at hs
  ·rename_i hu;exact cell rfl (not_agg hu hok (.inr (.inr (.inl rfl))))
  ·cases hs
 | sl s =>
  simp only [shOK] at hs
  split at hs
  ·rename_i hu;exact cell rfl (not_agg hu hok (.inr (.inr (.inr ⟨_,rfl⟩))))
  ·cases hs
 | st fs =>
  simp only [shOK] at hs
  split at hs
  ·rename_i hu
   simp only [Bool.and_eq_true,beq_iff_eq] at hs
   refine ⟨.agg row,⟨row,rfl,r1⟩,aggr ?_ hs.1⟩
   unfold Value.okWide at hok
   rw [hu] at hok
   obtain ⟨cs,h1,h2,_⟩:=hok
   exact ⟨cs,h1,h2⟩
  ·cases hs
 | arr n s =>
  simp only [shOK] at hs
  split at hs
  ·rename_i hu
   simp only [Bool.and_eq_true,beq_iff_eq,decide_eq_true_eq] at hs
   refine ⟨.agg row,⟨row,rfl,r1⟩,aggr ?_ hs.2⟩
   unfold Value.okWide at hok
   rw [hu] at hok
   obtain ⟨cs,h1,h2,_⟩:=hok
   exact ⟨cs,h1,h2⟩
  ·cases hs
theorem args_read {B:Nat} {W:World} {r:Reach} {base:Nat}:∀ (ts:List TypeId) (ss:List Sh) (vs:List Value) (ds:List (DataW H)) (ps:List MemPlace),shOKs P ts ss=true→DataW.TrodAll enc P W 0 (fun _=>true) true ts vs ds ps →
  (∀ (j:Nat) t v,ts[j]?=some t→vs[j]?=some v→Value.okWide P W r base t v)→withinL B ds=true →
  ∃ xs,ArgsL B ss xs∧vs.length=xs.length∧∀ (i:Nat) x,xs[i]?=some x→VR W (fun _=>none) (fun b _=>b<W.heap.size) x (vs.getD i Go.undef):=by
 intro ts
 induction ts with
 | nil =>
  intro ss vs ds ps hs h _ _
  obtain ⟨rfl,rfl,rfl⟩:=trodAll_nil h
  cases ss with
  | nil=>exact ⟨[],rfl,rfl,fun i x hx=>by simp at hx⟩
  | cons s r=>simp [shOKs] at hs
 | cons t ts ih =>
  intro ss vs ds ps hs h hok hl
  cases ss with
  | nil=>simp [shOKs] at hs
  | cons s ss =>
   simp only [shOKs,Bool.and_eq_true] at hs
   obtain ⟨v,vs',d,ds',p,q,rfl,rfl,rfl,h1,h2⟩:=trodAll_cons h
   simp only [withinL,Bool.and_eq_true] at hl
   obtain ⟨x,x1,x2⟩:=arg_read hs.1 (hok 0 t v rfl rfl) h1 hl.1
   obtain ⟨xs,g1,g2,g3⟩:=ih ss vs' ds' q hs.2 h2 (fun j t' v' ht hv=>hok (j+1) t' v' (by simpa using ht) (by simpa using hv)) hl.2
   refine ⟨x :: xs,⟨x,xs,rfl,x1,g1⟩,by simp [g2],fun i y hy=>?_⟩
   cases i with
   | zero=>simp at hy;subst hy;simpa using x2
   | succ i=>simpa using g3 i y (by simpa using hy)
theorem law_contract {A:Tab} (hX:XOK P G) (hA:TabOK P G A) (hfol:P.follows .mixedOrders=true) (hl:laidOutB P=true) {B:Nat} {fn:Func} {g:Nat} {ss:List Sh} (hs:shOKs P fn.params.toList ss=true)
  (hr:(fn.params.toList.all fun t=>P.readableRec t && decide (t<P.types.size))=true) {rt:TypeId} (hrt:fn.resultTypes=#[rt]) (hrb:P.underlying rt=some .bool)
  (law:∀ xs,ArgsL B ss xs→∃ h',Ccall A g xs []=some (.bool true,h')) {s:ChangeSpec} (hvars:s.vars=[])
  {W:World} {base:Nat} {args:Array Value} {ds gs:List (DataW H)} {before:List MemPlace}
  (hval:∀ (j:Nat) t v,fn.params[j]?=some t→args[j]?=some v→Value.okWide P W .any base t v)
  (hW:DataW.Whole enc P fn.params.toList s.vars false W args.toList ds gs before) (hB:withinL B ds=true) (hgo:GOK G W fun b _=>b<W.heap.size)
  (hfn:(s.fn H (ds ++ gs)).results=[.lit (.bool true)]∧(s.fn H (ds ++ gs)).args=ds∧(s.fn H (ds ++ gs)).vars=[]) :
  Calls P g args W fun e W'=>∃ v,e = .returned v∧s.post enc P fn false true false false W args v W':=by
 have hW':=hW
 obtain ⟨p,q,hT,hV,rfl,hfz,hnd⟩:=hW
 obtain ⟨xs,x1,x2,x3⟩:=args_read fn.params.toList ss args.toList ds p hs hT (fun j t v ht hv=>hval j t v (by simpa using ht) (by simpa using hv)) hB
 obtain ⟨h',hcc⟩:=law xs x1
 obtain ⟨⟨v0,h0,w⟩,hc,hq⟩:=Option.map_eq_some_iff.1 hcc
 simp only [Prod.mk.injEq] at hq
 obtain ⟨rfl,rfl⟩:=hq
 obtain ⟨k,hk⟩:=Acall_iff.1 hc
 have s0:SR W (fun _=>none) (fun b _=>b<W.heap.size) [] :=
  ⟨fun id p hp=>(by cases hp),fun id p hp=>(by cases hp),fun b _ hb=>hb,fun id cs hc=>(by simp at hc),fun id es ck hc=>(by simp at hc),fun id ht=>(by simp at ht),(by rintro i j p q ⟨b,hb,_⟩;simp at hb)⟩
 obtain ⟨_,hcalls⟩:=(acall_sound hX hA hfol k).2 g xs [] _ _ _ hk W (fun _=>none) (fun b _=>b<W.heap.size) args s0 hgo (by simpa using x2) (fun i x hx=>by simpa [Array.getD_eq_getD_getElem?,List.getD_eq_getElem?_getD] using x3 i x hx)
 refine hcalls.mono ?_
 rintro e W' ⟨rv,phi',im',rfl,hv,_,hp⟩
 have hrv:rv = .bool true:=hv.bool_inv
 subst hrv
 have bel:Below W.heap.size W W':=⟨hp.os,hp.tape,hp.output,hp.size,fun k hk=>hp.keep k hk (by rintro ⟨id,q,hq,_⟩;cases hq)⟩
 refine ⟨_,rfl,ds,gs,p ++ q,[],p,[],hW',?_,?_,?_,bel.frame _,fun h=>by cases h⟩
 ·rw [hfn.1,hrt]
  exact trodAll_mk1 ⟨1,by simp [DataW.trod,hrb,Value.cells]⟩
 ·rw [hfn.2.1]
  exact trodAll_stay hl bel _ _ _ _ (fun t ht=>by simpa using List.all_eq_true.1 hr t ht) hT
 ·rw [hfn.2.2,hvars]
  rfl
end
theorem upto_length {H:Type}:∀ (l:List (DataW H)),l.length≤Go.Proofs.YtfhijkapcdmdnaaGreatDoor.Rows.uptoBulkAll l:=by
 intro l
 induction l with
 | nil=>simp
 | cons x r ih =>
  simp only [List.length_cons,Go.Proofs.YtfhijkapcdmdnaaGreatDoor.Rows.uptoBulkAll]
  have:0<Go.Proofs.YtfhijkapcdmdnaaGreatDoor.Rows.uptoBulk x:=by
   cases x with
   | lit l=>cases l<;>simp [Go.Proofs.YtfhijkapcdmdnaaGreatDoor.Rows.uptoBulk]
   | _=>simp [Go.Proofs.YtfhijkapcdmdnaaGreatDoor.Rows.uptoBulk]
  omega
mutual
theorem upto_within {H:Type}:∀ (d:DataW H),Go.Proofs.YtfhijkapcdmdnaaGreatDoor.Rows.uptoBulk d≤1048576→within 1048576 d=true
 | .lit l,h=>by
  cases l with
  | string b =>
   simp only [Go.Proofs.YtfhijkapcdmdnaaGreatDoor.Rows.uptoBulk] at h
   simp only [within,decide_eq_true_eq]
   omega
  | _=>rfl
 | .nil,_=>rfl
 | .ptr _,_=>rfl
 | .slice es sp,h=>by
  simp only [Go.Proofs.YtfhijkapcdmdnaaGreatDoor.Rows.uptoBulk] at h
  simp only [within,Bool.and_eq_true,decide_eq_true_eq]
  exact ⟨by have:=upto_length es;omega,upto_withinL es (by omega)⟩
 | .agg ps,h=>by
  simp only [Go.Proofs.YtfhijkapcdmdnaaGreatDoor.Rows.uptoBulk] at h
  exact upto_withinL ps (by omega)
 | .iface _ _,_=>rfl
 | .map _,_=>rfl
 | .held _,_=>rfl
theorem upto_withinL {H:Type}:∀ (l:List (DataW H)),Go.Proofs.YtfhijkapcdmdnaaGreatDoor.Rows.uptoBulkAll l≤1048576→withinL 1048576 l=true
 | [],_=>rfl
 | d :: r,h=>by
  simp only [Go.Proofs.YtfhijkapcdmdnaaGreatDoor.Rows.uptoBulkAll] at h
  simp only [withinL,Bool.and_eq_true]
  exact ⟨upto_within d (by omega),upto_withinL r (by omega)⟩
end
end Go.AM
