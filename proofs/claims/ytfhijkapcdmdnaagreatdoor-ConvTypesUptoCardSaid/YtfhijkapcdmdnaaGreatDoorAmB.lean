/- The abstract machine: how its values and its memory stand to the real ones. -/
import Derived.Test.YtfhijkapcdmdnaaGreatDoorAmA
import Derived.Below
namespace Go.AM
abbrev Imm:=Nat→Nat→Prop
def CapI (base:Option Addr) (len rcap:Nat):Cap→Prop
 | .no=>True
 | .nn=>base.isSome=true
 | .nil=>base=none∧rcap=0
 | .full=>rcap=len
 | .tok _ _=>False
inductive IR (w:World) (im:Imm):AV→Value→Prop
 | undef (v:Value):IR w im .undef v
 | int (k:IntKind) (n:Int):IR w im (.int k n) (.int k n)
 | bool (b:Bool):IR w im (.bool b) (.bool b)
 | str (s:List UInt8):IR w im (.str s) (.string ⟨s.toArray⟩)
 | nilp:IR w im .nilp (.pointer none)
 | ip (row:List AV) (off b o:Nat) (vs:Nat→Value) (ho:off≤o) (hi:∀ j x,row[j]?=some x→im b (o - off+j))
   (hc:∀ j x,row[j]?=some x→w.cell? ⟨b,o - off+j,none⟩=some (vs j))
   (hr:∀ j x,row[j]?=some x→IR w im x (vs j)):IR w im (.ip row off) (.pointer (some ⟨b,o,none⟩))
 | is (rows:List (List AV)) (cap:Cap) (base:Option Addr) (b o sz rcap:Nat) (vs:Nat→Nat→Value) (hb:0<rcap→base=some ⟨b,o,none⟩) (ht:CapI base rows.length rcap cap)
   (hz:∀ row ∈ rows,row.length=sz) (hl:rows.length≤rcap)
   (hi:∀ i row j x,rows[i]?=some row→row[j]?=some x→im b (o+i*sz+j))
   (hc:∀ i row j x,rows[i]?=some row→row[j]?=some x→w.cell? ⟨b,o+i*sz+j,none⟩=some (vs i j))
   (hr:∀ i row j x,rows[i]?=some row→row[j]?=some x→IR w im x (vs i j)):IR w im (.is rows cap) (.slice base rows.length rcap)
 | fn (f:Nat) (first caps:List AV) (us vs:Array Value) (hm:us.size=first.length) (hq:∀ (i:Nat) x,first[i]?=some x→IR w im x (us.getD i Go.undef))
   (hn:vs.size=caps.length) (hr:∀ (i:Nat) x,caps[i]?=some x→IR w im x (vs.getD i Go.undef)):IR w im (.fn f first caps) (.func (.func f) us vs)
 | nilf:IR w im .nilf .nilFunc
 | nilm:IR w im .nilm (.map none)
 | nili:IR w im .nili .nilIface
 | ifc (t:Nat) (x:AV) (v:Value) (hr:IR w im x v):IR w im (.ifc t x) (.iface t v)
 | agg (cs:List AV) (vs:Array Value) (hn:vs.size=cs.length) (hr:∀ (i:Nat) x,cs[i]?=some x→IR w im x (vs.getD i Go.undef)):IR w im (.agg cs) (.agg vs)
 | tup (cs:List AV) (vs:Array Value) (hn:vs.size=cs.length) (hr:∀ (i:Nat) x,cs[i]?=some x→IR w im x (vs.getD i Go.undef)):IR w im (.tup cs) (.tuple vs)
abbrev Phi:=Nat→Option (Nat × Nat)
inductive VR (w:World) (phi:Phi) (im:Imm):AV→Value→Prop
 | imm {x:AV} {v:Value} (h:IR w im x v):VR w phi im x v
 | mp (id off b sh:Nat) (h:phi id=some (b,sh)):VR w phi im (.mp id off) (.pointer (some ⟨b,sh+off,none⟩))
 | ist (rows:List (List AV)) (id sz:Nat) (base:Option Addr) (b o rcap:Nat) (e:TypeId) (n:Nat) (vs:Nat→Nat→Value) (hb:0<rcap→base=some ⟨b,o,none⟩) (h:phi id=some (b,o+rows.length*sz))
   (hs:w.shape? b=some (e,n)) (hn:o+rcap*sz≤n) (hz:∀ row ∈ rows,row.length=sz) (hl:rows.length≤rcap)
   (hi:∀ i row j x,rows[i]?=some row→row[j]?=some x→im b (o+i*sz+j))
   (hc:∀ i row j x,rows[i]?=some row→row[j]?=some x→w.cell? ⟨b,o+i*sz+j,none⟩=some (vs i j))
   (hr:∀ i row j x,rows[i]?=some row→row[j]?=some x→IR w im x (vs i j)):VR w phi im (.is rows (.tok id sz)) (.slice base rows.length rcap)
 | ms (id off len sz cap:Nat) (ex:Bool) (b sh o rcap:Nat) (e:TypeId) (n:Nat) (h:phi id=some (b,sh)) (ho:0<rcap→o=sh+off)
   (hs:w.shape? b=some (e,n)) (hn:o+rcap*sz≤n) (hc:cap≤rcap) (hx:ex=true→rcap=cap) (hl:len≤cap) :
   VR w phi im (.ms id off len sz cap ex) (.slice (some ⟨b,o,none⟩) len rcap)
 | mm (id b:Nat) (h:phi id=some (b,0)):VR w phi im (.mm id) (.map (some b))
 | fn (f:Nat) (first caps:List AV) (us vs:Array Value) (hm:us.size=first.length) (hq:∀ (i:Nat) x,first[i]?=some x→VR w phi im x (us.getD i Go.undef))
   (hn:vs.size=caps.length) (hr:∀ (i:Nat) x,caps[i]?=some x→VR w phi im x (vs.getD i Go.undef)):VR w phi im (.fn f first caps) (.func (.func f) us vs)
 | ifc (t:Nat) (x:AV) (v:Value) (hr:VR w phi im x v):VR w phi im (.ifc t x) (.iface t v)
 | agg (cs:List AV) (vs:Array Value) (hn:vs.size=cs.length) (hr:∀ (i:Nat) x,cs[i]?=some x→VR w phi im x (vs.getD i Go.undef)):VR w phi im (.agg cs) (.agg vs)
 | tup (cs:List AV) (vs:Array Value) (hn:vs.size=cs.length) (hr:∀ (i:Nat) x,cs[i]?=some x→VR w phi im x (vs.getD i Go.undef)):VR w phi im (.tup cs) (.tuple vs)
theorem IR.mono {w w':World} {im im':Imm} (hh:∀ b o,im b o→w'.cell? ⟨b,o,none⟩=w.cell? ⟨b,o,none⟩) (hm:∀ b o,im b o→im' b o) {x:AV} {v:Value} (h:IR w im x v):IR w' im' x v:=by
 induction h with
 | undef v=>exact .undef v
 | int k n=>exact .int k n
 | bool b=>exact .bool b
 | str s=>exact .str s
 | nilp=>exact .nilp
 | ip row off b o vs ho hi hc hr ih=>exact .ip row off b o vs ho (fun j x hj=>hm _ _ (hi j x hj)) (fun j x hj=>by rw [hh _ _ (hi j x hj)];exact hc j x hj) ih
 | is rows cap base b o sz rcap vs hb ht hz hl hi hc hr ih =>
  exact .is rows cap base b o sz rcap vs hb ht hz hl (fun i row j x h1 h2=>hm _ _ (hi i row j x h1 h2)) (fun i row j x h1 h2=>by rw [hh _ _ (hi i row j x h1 h2)];exact hc i row j x h1 h2) ih
 | fn f first caps us vs hm hq hn hr ihq ih=>exact .fn f first caps us vs hm ihq hn ih
 | nilf=>exact .nilf
 | nilm=>exact .nilm
 | nili=>exact .nili
 | ifc t x v hr ih=>exact .ifc t x v ih
 | agg cs vs hn hr ih=>exact .agg cs vs hn ih
 | tup cs vs hn hr ih=>exact .tup cs vs hn ih
theorem VR.mono {w w':World} {phi phi':Phi} {im im':Imm} (hh:∀ b o,im b o→w'.cell? ⟨b,o,none⟩=w.cell? ⟨b,o,none⟩) (hs:∀ b s,w.shape? b=some s→w'.shape? b=some s)
  (hp:∀ id p,phi id=some p→phi' id=some p) (hm:∀ b o,im b o→im' b o) {x:AV} {v:Value} (h:VR w phi im x v):VR w' phi' im' x v:=by
 induction h with
 | imm h=>exact .imm (h.mono hh hm)
 | mp id off b sh h=>exact .mp id off b sh (hp _ _ h)
 | ist rows id sz base b o rcap e n vs hb h hs' hn hz hl hi hc hr =>
  exact .ist rows id sz base b o rcap e n vs hb (hp _ _ h) (hs _ _ hs') hn hz hl (fun i row j x h1 h2=>hm _ _ (hi i row j x h1 h2)) (fun i row j x h1 h2=>by rw [hh _ _ (hi i row j x h1 h2)];exact hc i row j x h1 h2) fun i row j x h1 h2=>(hr i row j x h1 h2).mono hh hm
 | ms id off len sz cap ex b sh o rcap e n h ho hs' hn hc hx hl=>exact .ms id off len sz cap ex b sh o rcap e n (hp _ _ h) ho (hs _ _ hs') hn hc hx hl
 | mm id b h=>exact .mm id b (hp _ _ h)
 | fn f first caps us vs hm hq hn hr ihq ih=>exact .fn f first caps us vs hm ihq hn ih
 | ifc t x v hr ih=>exact .ifc t x v ih
 | agg cs vs hn hr ih=>exact .agg cs vs hn ih
 | tup cs vs hn hr ih=>exact .tup cs vs hn ih
def img (phi:Phi) (b:Nat):Prop:=∃ id p,phi id=some p∧p.1=b
def live (h:Heap) (i:Nat):Prop:=∃ b,h[i]?=some b∧((∃ cs,b = .cells cs)∨(∃ es c,b = .map es c)∨b = .tok)
structure SR (w:World) (phi:Phi) (im:Imm) (h:Heap):Prop where
 dom:∀ id p,phi id=some p→∃ b,h[id]?=some b∧b.isFree=false
 lt:∀ id p,phi id=some p→p.1<w.heap.size
 imlt:∀ b o,im b o→b<w.heap.size
 cells:∀ (id:Nat) cs,h[id]?=some (.cells cs)→∃ b sh c e fz,phi id=some (b,sh)∧w.heap[b]?=some (.cells c e fz)∧sh+cs.length≤c.size ∧
  (∀ (j:Nat) x,cs[j]?=some x→VR w phi im x (c.getD (sh+j) Go.undef))∧(∀ j,j<c.size→¬ (fz.1≤j∧j<fz.2))∧∀ o,sh≤o→¬ im b o
 map:∀ (id:Nat) es ck,h[id]?=some (.map es ck)→∃ b res,phi id=some (b,0)∧w.heap[b]?=some (.map res ck)∧res.size=es.length ∧
  (∀ (j:Nat) k v t,es[j]?=some (k,v,t)→∃ e,res[j]?=some e∧VR w phi im k e.key∧VR w phi im v e.val∧e.born=t)
 tok:∀ (id:Nat),h[id]?=some .tok→∃ b t c e fz,phi id=some (b,t)∧w.heap[b]?=some (.cells c e fz)∧(∀ j,j<c.size→¬ (fz.1≤j∧j<fz.2))∧∀ o,t≤o→¬ im b o
 inj:∀ i j p q,live h i→live h j→phi i=some p→phi j=some q→p.1=q.1→i=j
structure Post (w:World) (phi:Phi) (im:Imm) (w':World) (phi':Phi) (im':Imm):Prop where
 os:w'.os=w.os
 tape:w'.tape=w.tape
 output:w'.output=w.output
 size:w.heap.size≤w'.heap.size
 keep:∀ b,b<w.heap.size→¬ img phi b→w'.heap[b]?=w.heap[b]?
 imkeep:∀ b o,im b o→w'.cell? ⟨b,o,none⟩=w.cell? ⟨b,o,none⟩
 shape:∀ b s,w.shape? b=some s→w'.shape? b=some s
 ext:∀ id p,phi id=some p→phi' id=some p
 new:∀ b,img phi' b→img phi b∨w.heap.size≤b
 imext:∀ b o,im b o→im' b o
 imnew:∀ b o,im' b o→im b o∨w.heap.size≤b∨img phi b
theorem Post.refl (w:World) (phi:Phi) (im:Imm):Post w phi im w phi im :=
 ⟨rfl,rfl,rfl,Nat.le_refl _,fun _ _ _=>rfl,fun _ _ _=>rfl,fun _ _ h=>h,fun _ _ h=>h,fun _ h => .inl h,fun _ _ h=>h,fun _ _ h => .inl h⟩
theorem Post.trans {w w1 w2:World} {phi phi1 phi2:Phi} {im im1 im2:Imm} (a:Post w phi im w1 phi1 im1) (b:Post w1 phi1 im1 w2 phi2 im2):Post w phi im w2 phi2 im2 where
 os:=b.os.trans a.os
 tape:=b.tape.trans a.tape
 output:=b.output.trans a.output
 size:=Nat.le_trans a.size b.size
 keep k hk hn:=(b.keep k (Nat.lt_of_lt_of_le hk a.size) fun hi=>(a.new k hi).elim hn (fun h=>absurd hk (Nat.not_lt.2 h))).trans (a.keep k hk hn)
 imkeep k o h:=(b.imkeep k o (a.imext k o h)).trans (a.imkeep k o h)
 shape k s h:=b.shape k s (a.shape k s h)
 ext id p h:=b.ext id p (a.ext id p h)
 new k h:=(b.new k h).elim (a.new k) (fun h => .inr (Nat.le_trans a.size h))
 imext k o h:=b.imext k o (a.imext k o h)
 imnew k o h:=(b.imnew k o h).elim (a.imnew k o) fun h=>h.elim (fun h => .inr (.inl (Nat.le_trans a.size h))) fun h=>(a.new k h).elim (fun h => .inr (.inr h)) fun h => .inr (.inl h)
theorem Post.drew (w:World) (phi:Phi) (im:Imm) (n:Nat):Post w phi im { w with drawn:=n } phi im :=
 ⟨rfl,rfl,rfl,Nat.le_refl _,fun _ _ _=>rfl,fun _ _ _=>rfl,fun _ _ h=>h,fun _ _ h=>h,fun _ h => .inl h,fun _ _ h=>h,fun _ _ h => .inl h⟩
theorem IR.heap {w w':World} {im:Imm} (h:w'.heap=w.heap) {x:AV} {v:Value} (r:IR w im x v):IR w' im x v:=r.mono (fun b o _=>by simp [World.cell?,h]) fun _ _ h=>h
theorem VR.heap {w w':World} {phi:Phi} {im:Imm} (h:w'.heap=w.heap) {x:AV} {v:Value} (r:VR w phi im x v):VR w' phi im x v :=
 r.mono (fun b o _=>by simp [World.cell?,h]) (fun b s hs=>by simpa [World.shape?,h] using hs) (fun _ _ h=>h) fun _ _ h=>h
theorem SR.heap {w w':World} {phi:Phi} {im:Imm} {h:Heap} (e:w'.heap=w.heap) (s:SR w phi im h):SR w' phi im h where
 dom:=s.dom
 lt id p hp:=by rw [e];exact s.lt id p hp
 imlt b o hb:=by rw [e];exact s.imlt b o hb
 cells id cs hc:=by
  obtain ⟨b,sh,c,el,fz,h1,h2,h3,h4,h5⟩:=s.cells id cs hc
  exact ⟨b,sh,c,el,fz,h1,by rw [e];exact h2,h3,fun j x hj=>(h4 j x hj).heap e,h5⟩
 map id es ck hm:=by
  obtain ⟨b,res,h1,h2,h3,h4⟩:=s.map id es ck hm
  refine ⟨b,res,h1,by rw [e];exact h2,h3,fun j k v t hj=>?_⟩
  obtain ⟨x,g1,g2,g3,g4⟩:=h4 j k v t hj
  exact ⟨x,g1,g2.heap e,g3.heap e,g4⟩
 tok id ht:=by
  obtain ⟨b,t,c,el,fz,h1,h2,h3⟩:=s.tok id ht
  exact ⟨b,t,c,el,fz,h1,by rw [e];exact h2,h3⟩
 inj:=s.inj
theorem Post.mono {w w':World} {phi phi':Phi} {im im':Imm} (p:Post w phi im w' phi' im') {x:AV} {v:Value} (r:VR w phi im x v):VR w' phi' im' x v :=
 r.mono p.imkeep p.shape p.ext p.imext
theorem SR.mono {w w':World} {phi phi':Phi} {im im':Imm} {h:Heap} (_:SR w phi im h) (p:Post w phi im w' phi' im') {x:AV} {v:Value} (r:VR w phi im x v):VR w' phi' im' x v:=p.mono r
theorem live_set {h:Heap} {id:Nat} {b:Blk} {i:Nat} (hl:live (h.set id b) i):i=id∨live h i:=by
 obtain ⟨c,hc,hk⟩:=hl
 rw [List.getElem?_set] at hc
 by_cases e:id=i
 ·exact .inl e.symm
 ·rw [if_neg e] at hc
  exact .inr ⟨c,hc,hk⟩
theorem set_lt {α:Type} {h:List α} {id:Nat} {b:α} (hs:h[id]?=some b):id<h.length:=by
 rcases Nat.lt_or_ge id h.length with g|g
 ·exact g
 ·rw [List.getElem?_eq_none g] at hs;cases hs
theorem SR.free_none {w:World} {phi:Phi} {im:Imm} {h:Heap} (s:SR w phi im h) {slot:Nat} {b0:Blk} (hs:h[slot]?=some b0) (hf:b0.isFree=true):phi slot=none:=by
 cases hp:phi slot with
 | none=>rfl
 | some p =>
  obtain ⟨b,hb,hb'⟩:=s.dom slot p hp
  rw [hs] at hb
  cases hb
  rw [hf] at hb'
  exact absurd hb' (by simp)
theorem shape_lt {w:World} {b:Nat} {t:TypeId × Nat} (h:w.shape? b=some t):b<w.heap.size:=by
 rcases Nat.lt_or_ge b w.heap.size with g|g
 ·exact g
 ·simp [World.shape?,Array.getElem?_eq_none g] at h
def phiAt (phi:Phi) (slot b sh:Nat):Phi:=fun i=>if i=slot then some (b,sh) else phi i
theorem phiAt_self (phi:Phi) (slot b sh:Nat):phiAt phi slot b sh slot=some (b,sh):=by simp [phiAt]
theorem phiAt_ne {phi:Phi} {slot b sh i:Nat} (h:i≠slot):phiAt phi slot b sh i=phi i:=by simp [phiAt,h]
theorem phiAt_img {phi:Phi} {slot b sh k:Nat} (h:img (phiAt phi slot b sh) k):img phi k∨k=b:=by
 obtain ⟨id,p,hp,rfl⟩:=h
 by_cases q:id=slot
 ·subst q;rw [phiAt_self] at hp;cases hp;exact .inr rfl
 ·rw [phiAt_ne q] at hp;exact .inl ⟨id,p,hp,rfl⟩
theorem SR.push {w:World} {phi:Phi} {im:Imm} {h:Heap} (s:SR w phi im h) {w':World} {ob:Obj} (hw:w'.heap=w.heap.push ob) (h1:w'.os=w.os) (h2:w'.tape=w.tape) (h3:w'.output=w.output)
  (im':Imm) (hm:∀ b o,im b o→im' b o) (hn:∀ b o,im' b o→im b o∨b=w.heap.size) :
  SR w' phi im' h∧Post w phi im w' phi im':=by
 have hold:∀ b,b<w.heap.size→w'.heap[b]?=w.heap[b]?:=fun b hb=>by rw [hw,Array.getElem?_push,if_neg (by omega)]
 have hpost:Post w phi im w' phi im':=by
  refine ⟨h1,h2,h3,by rw [hw];simp,fun b hb _=>hold b hb,fun b o hb=>by simp [World.cell?,hold b (s.imlt b o hb)],fun b t ht=>?_,fun _ _ h=>h,fun _ h => .inl h,hm,fun b o h=>(hn b o h).imp id fun q => .inl (by omega)⟩
  simpa [World.shape?,hold b (shape_lt ht)] using ht
 have nim:∀ b,b<w.heap.size→∀ o,¬ im b o→¬ im' b o:=fun b hb o hi hi'=>(hn b o hi').elim hi fun q=>by omega
 refine ⟨⟨s.dom,fun id p hp=>by have:=s.lt id p hp;rw [hw,Array.size_push];omega,fun b o hb=>?_,?_,?_,?_,s.inj⟩,hpost⟩
 ·rw [hw,Array.size_push]
  rcases hn b o hb with q|q
  ·have:=s.imlt b o q;omega
  ·omega
 ·intro id cs hc
  obtain ⟨b,sh,c,e,fz,g1,g2,g3,g4,g5,g6⟩:=s.cells id cs hc
  have hlt:=s.lt id _ g1
  exact ⟨b,sh,c,e,fz,g1,(hold b hlt).trans g2,g3,fun j x hj=>hpost.mono (g4 j x hj),g5,fun o ho=>nim b hlt o (g6 o ho)⟩
 ·intro id es ck hc
  obtain ⟨b,res,g1,g2,g3,g4⟩:=s.map id es ck hc
  refine ⟨b,res,g1,(hold b (s.lt id _ g1)).trans g2,g3,fun j k v t hj=>?_⟩
  obtain ⟨x,x1,x2,x3,x4⟩:=g4 j k v t hj
  exact ⟨x,x1,hpost.mono x2,hpost.mono x3,x4⟩
 ·intro id ht
  obtain ⟨b,t,c,e,fz,g1,g2,g3,g4⟩:=s.tok id ht
  have hlt:=s.lt id _ g1
  exact ⟨b,t,c,e,fz,g1,(hold b hlt).trans g2,g3,fun o ho=>nim b hlt o (g4 o ho)⟩
def Stands (w:World) (phi:Phi) (im:Imm) (b sh:Nat):Blk→Prop
 | .cells cs=>∃ c e fz,w.heap[b]?=some (.cells c e fz)∧sh+cs.length≤c.size∧(∀ (j:Nat) x,cs[j]?=some x→VR w phi im x (c.getD (sh+j) Go.undef))∧(∀ j,j<c.size→¬ (fz.1≤j∧j<fz.2))∧∀ o,sh≤o→¬ im b o
 | .map es ck=>sh=0∧∃ res,w.heap[b]?=some (.map res ck)∧res.size=es.length∧∀ (j:Nat) k v t,es[j]?=some (k,v,t)→∃ e,res[j]?=some e∧VR w phi im k e.key∧VR w phi im v e.val∧e.born=t
 | .tok=>∃ c e fz,w.heap[b]?=some (.cells c e fz)∧(∀ j,j<c.size→¬ (fz.1≤j∧j<fz.2))∧∀ o,sh≤o→¬ im b o
 | .dead=>True
 | .free=>False
theorem SR.take {w:World} {phi:Phi} {im:Imm} {h:Heap} (s:SR w phi im h) {slot:Nat} {b0:Blk} (hs:h[slot]?=some b0) (hf:b0.isFree=true) {b sh:Nat} {k:Blk} (hk:Stands w phi im b sh k) (hb:b<w.heap.size)
  (hn:∀ i p,live h i→phi i=some p→p.1≠b):SR w (phiAt phi slot b sh) im (h.set slot k):=by
 have hno:=s.free_none hs hf
 have hlt:=set_lt hs
 have ext:∀ id p,phi id=some p→phiAt phi slot b sh id=some p:=fun id p hp=>by
  have hne:id≠slot:=fun q=>by rw [q,hno] at hp;cases hp
  rw [phiAt_ne hne];exact hp
 have up:∀ {x v},VR w phi im x v→VR w (phiAt phi slot b sh) im x v:=fun r=>r.mono (fun _ _ _=>rfl) (fun _ _ h=>h) ext fun _ _ h=>h
 have old:∀ {id:Nat} {q:Blk},id≠slot→(h.set slot k)[id]?=some q→h[id]?=some q:=fun hne hq=>by rwa [List.getElem?_set_ne (Ne.symm hne)] at hq
 have self:(h.set slot k)[slot]?=some k:=List.getElem?_set_self hlt
 refine ⟨fun id p hp=>?_,fun id p hp=>?_,s.imlt,fun id cs hc=>?_,fun id es ck hc=>?_,fun id ht=>?_,fun i j p q li lj hp hq he=>?_⟩
 ·by_cases q:id=slot
  ·subst q
   exact ⟨k,self,by cases k<;>first|rfl|exact hk.elim⟩
  ·rw [phiAt_ne q] at hp
   obtain ⟨b',h1,h2⟩:=s.dom id p hp
   exact ⟨b',by rw [List.getElem?_set_ne (Ne.symm q)];exact h1,h2⟩
 ·by_cases q:id=slot
  ·subst q;rw [phiAt_self] at hp;cases hp;exact hb
  ·rw [phiAt_ne q] at hp;exact s.lt id p hp
 ·by_cases q:id=slot
  ·subst q
   rw [self] at hc
   cases hc
   obtain ⟨c,e,fz,g1,g2,g3,g4⟩:=hk
   exact ⟨b,sh,c,e,fz,phiAt_self ..,g1,g2,fun j x hj=>up (g3 j x hj),g4⟩
  ·obtain ⟨b',sh',c,e,fz,g1,g2,g3,g4,g5⟩:=s.cells id cs (old q hc)
   exact ⟨b',sh',c,e,fz,ext _ _ g1,g2,g3,fun j x hj=>up (g4 j x hj),g5⟩
 ·by_cases q:id=slot
  ·subst q
   rw [self] at hc
   cases hc
   obtain ⟨rfl,res,g1,g2,g3⟩:=hk
   refine ⟨b,res,phiAt_self ..,g1,g2,fun j k v t hj=>?_⟩
   obtain ⟨x,x1,x2,x3,x4⟩:=g3 j k v t hj
   exact ⟨x,x1,up x2,up x3,x4⟩
  ·obtain ⟨b',res,g1,g2,g3,g4⟩:=s.map id es ck (old q hc)
   refine ⟨b',res,ext _ _ g1,g2,g3,fun j k v t hj=>?_⟩
   obtain ⟨x,x1,x2,x3,x4⟩:=g4 j k v t hj
   exact ⟨x,x1,up x2,up x3,x4⟩
 ·by_cases q:id=slot
  ·subst q
   rw [self] at ht
   cases ht
   obtain ⟨c,e,fz,g1,g2,g3⟩:=hk
   exact ⟨b,sh,c,e,fz,phiAt_self ..,g1,g2,g3⟩
  ·obtain ⟨b',t,c,e,fz,g1,g2⟩:=s.tok id (old q ht)
   exact ⟨b',t,c,e,fz,ext _ _ g1,g2⟩
 ·by_cases gi:i=slot
  ·by_cases gj:j=slot
   ·rw [gi,gj]
   ·subst gi
    rw [phiAt_self] at hp
    cases hp
    rw [phiAt_ne gj] at hq
    exact absurd he.symm (hn j q ((live_set lj).resolve_left gj) hq)
  ·by_cases gj:j=slot
   ·subst gj
    rw [phiAt_self] at hq
    cases hq
    rw [phiAt_ne gi] at hp
    exact absurd he (hn i p ((live_set li).resolve_left gi) hp)
   ·rw [phiAt_ne gi] at hp
    rw [phiAt_ne gj] at hq
    exact s.inj i j p q ((live_set li).resolve_left gi) ((live_set lj).resolve_left gj) hp hq he
theorem Post.take {w0 w:World} {phi0 phi:Phi} {im0 im:Imm} (p:Post w0 phi0 im0 w phi im) {slot b sh:Nat} (hno:phi slot=none) (hb:img phi0 b∨w0.heap.size≤b):Post w0 phi0 im0 w (phiAt phi slot b sh) im :=
 ⟨p.os,p.tape,p.output,p.size,p.keep,p.imkeep,p.shape,fun id q hq=>by
  have hq':=p.ext id q hq
  have hne:id≠slot:=fun e=>by rw [e,hno] at hq';cases hq'
  rw [phiAt_ne hne];exact hq',fun k hk=>(phiAt_img hk).elim (p.new k) fun e=>by subst e;exact hb,p.imext,p.imnew⟩
theorem SR.new {w:World} {phi:Phi} {im:Imm} {h:Heap} (s:SR w phi im h) {slot:Nat} {b0:Blk} (hs:h[slot]?=some b0) (hf:b0.isFree=true)
  {w':World} {ob:Obj} (hw:w'.heap=w.heap.push ob) (h1:w'.os=w.os) (h2:w'.tape=w.tape) (h3:w'.output=w.output)
  (im':Imm) (hm:∀ b o,im b o→im' b o) (hn:∀ b o,im' b o→im b o∨b=w.heap.size) {k:Blk} {sh:Nat}
  (hk:Post w phi im w' phi im'→Stands w' phi im' w.heap.size sh k) :
  SR w' (phiAt phi slot w.heap.size sh) im' (h.set slot k)∧Post w phi im w' (phiAt phi slot w.heap.size sh) im':=by
 obtain ⟨s1,p1⟩:=s.push hw h1 h2 h3 im' hm hn
 have hno:=s.free_none hs hf
 exact ⟨s1.take hs hf (hk p1) (by rw [hw];simp) fun i p _ hp=>by have:=s.lt i p hp;omega,p1.take hno (.inr (Nat.le_refl _))⟩
structure Wrote (w w':World) (b:Nat) (c:Array Value) (e:TypeId) (fz:Nat × Nat) (c':Array Value):Prop where
 os:w'.os=w.os
 tape:w'.tape=w.tape
 output:w'.output=w.output
 size:w'.heap.size=w.heap.size
 was:w.heap[b]?=some (.cells c e fz)
 now:w'.heap[b]?=some (.cells c' e fz)
 other:∀ k,k≠b→w'.heap[k]?=w.heap[k]?
 len:c'.size=c.size
theorem Wrote.shape {w w':World} {b:Nat} {c:Array Value} {e:TypeId} {fz:Nat × Nat} {c':Array Value} (h:Wrote w w' b c e fz c') (k:Nat) (t:TypeId × Nat) (ht:w.shape? k=some t):w'.shape? k=some t:=by
 by_cases q:k=b
 ·subst q
  simp only [World.shape?,h.was,Option.some.injEq] at ht
  simp only [World.shape?,h.now,h.len]
  rw [← ht]
 ·simpa [World.shape?,h.other k q] using ht
theorem SR.turn {w:World} {phi:Phi} {im:Imm} {h:Heap} (s:SR w phi im h) {b:Nat} {w':World} (h1:w'.os=w.os) (h2:w'.tape=w.tape) (h3:w'.output=w.output) (hsz:w'.heap.size=w.heap.size)
  (ho:∀ k,k≠b→w'.heap[k]?=w.heap[k]?) (hsh:∀ t,w.shape? b=some t→w'.shape? b=some t) (hik:∀ o,im b o→w'.cell? ⟨b,o,none⟩=w.cell? ⟨b,o,none⟩) (hb:img phi b)
  (im':Imm) (hm:∀ k o,im k o→im' k o) (hn:∀ k o,im' k o→im k o∨k=b) :
  Post w phi im w' phi im'∧((∀ i p,live h i→phi i=some p→p.1≠b)→SR w' phi im' h):=by
 have hblt:b<w.heap.size:=by
  obtain ⟨id,p,hp,rfl⟩:=hb
  exact s.lt id p hp
 have hpost:Post w phi im w' phi im':=by
  refine ⟨h1,h2,h3,by rw [hsz];exact Nat.le_refl _,fun k _ hk=>ho k fun q=>hk (q ▸ hb),fun k o hk=>?_,fun k t ht=>?_,fun _ _ h=>h,fun _ h => .inl h,hm,fun k o hk=>(hn k o hk).elim .inl fun q => .inr (.inr (by rw [q];exact hb))⟩
  ·by_cases q:k=b
   ·subst q;exact hik o hk
   ·simp [World.cell?,ho k q]
  ·by_cases q:k=b
   ·subst q;exact hsh t ht
   ·simpa [World.shape?,ho k q] using ht
 have nim:∀ k,k≠b→∀ o,¬ im k o→¬ im' k o:=fun k hk o hi hi'=>(hn k o hi').elim hi hk
 refine ⟨hpost,fun hd=>⟨s.dom,fun i p hp=>by rw [hsz];exact s.lt i p hp,fun k o hk=>?_,?_,?_,?_,s.inj⟩⟩
 ·rw [hsz]
  exact (hn k o hk).elim (s.imlt k o) fun q=>by rw [q];exact hblt
 ·intro id cs hc
  obtain ⟨b',sh,c,e,fz,g1,g2,g3,g4,g5,g6⟩:=s.cells id cs hc
  have hne:=hd id _ ⟨_,hc,.inl ⟨_,rfl⟩⟩ g1
  exact ⟨b',sh,c,e,fz,g1,(ho b' hne).trans g2,g3,fun j x hj=>hpost.mono (g4 j x hj),g5,fun o hoo=>nim b' hne o (g6 o hoo)⟩
 ·intro id es ck hc
  obtain ⟨b',res,g1,g2,g3,g4⟩:=s.map id es ck hc
  have hne:=hd id _ ⟨_,hc,.inr (.inl ⟨_,_,rfl⟩)⟩ g1
  refine ⟨b',res,g1,(ho b' hne).trans g2,g3,fun j k v t hj=>?_⟩
  obtain ⟨x,x1,x2,x3,x4⟩:=g4 j k v t hj
  exact ⟨x,x1,hpost.mono x2,hpost.mono x3,x4⟩
 ·intro id ht
  obtain ⟨b',t,c,e,fz,g1,g2,g3,g4⟩:=s.tok id ht
  have hne:=hd id _ ⟨_,ht,.inr (.inr rfl)⟩ g1
  exact ⟨b',t,c,e,fz,g1,(ho b' hne).trans g2,g3,fun o hoo=>nim b' hne o (g4 o hoo)⟩
theorem SR.kill {w:World} {phi:Phi} {im:Imm} {h:Heap} (s:SR w phi im h) {id:Nat} {b0:Blk} (hi:h[id]?=some b0):SR w phi im (h.set id .dead):=by
 have old:∀ {i:Nat} {q:Blk},q ≠ .dead→(h.set id .dead)[i]?=some q→h[i]?=some q:=fun hne hq=>by
  rename_i i _
  by_cases e:i=id
  ·rw [e,List.getElem?_set_self (set_lt hi)] at hq;cases hq;exact absurd rfl hne
  ·rwa [List.getElem?_set_ne (Ne.symm e)] at hq
 refine ⟨fun i p hq=>?_,s.lt,s.imlt,fun i cs hc=>s.cells i cs (old (fun q=>by cases q) hc),fun i es ck hc=>s.map i es ck (old (fun q=>by cases q) hc),fun i ht=>s.tok i (old (fun q=>by cases q) ht),fun i j p q li lj=>?_⟩
 ·by_cases q:i=id
  ·exact ⟨.dead,by rw [q,List.getElem?_set_self (set_lt hi)],rfl⟩
  ·obtain ⟨b,hb,hb'⟩:=s.dom i p hq
   exact ⟨b,by rw [List.getElem?_set_ne (Ne.symm q)];exact hb,hb'⟩
 ·have dead:∀ k,live (h.set id .dead) k→live h k:=by
   rintro k ⟨b,hb,hk⟩
   refine ⟨b,old (fun q=>?_) hb,hk⟩
   subst q
   rcases hk with ⟨_,g⟩|⟨_,_,g⟩|g<;>cases g
  exact s.inj i j p q (dead i li) (dead j lj)
theorem not_live_dead {h:Heap} {id:Nat} {b0:Blk} (hi:h[id]?=some b0):¬ live (h.set id .dead) id:=by
 rintro ⟨b,hb,hk⟩
 rw [List.getElem?_set_self (set_lt hi)] at hb
 cases hb
 rcases hk with ⟨_,g⟩|⟨_,_,g⟩|g<;>cases g
theorem SR.revive {w:World} {phi:Phi} {im:Imm} {h:Heap} (s:SR w phi im h) {id:Nat} (hi:h[id]?=some .dead) {b sh:Nat} (hp:phi id=some (b,sh)) {k:Blk} (hk:Stands w phi im b sh k)
  (hn:∀ i p,live h i→phi i=some p→p.1≠b):SR w phi im (h.set id k):=by
 have hlt:=set_lt hi
 have old:∀ {i:Nat} {q:Blk},i≠id→(h.set id k)[i]?=some q→h[i]?=some q:=fun hne hq=>by rwa [List.getElem?_set_ne (Ne.symm hne)] at hq
 have self:(h.set id k)[id]?=some k:=List.getElem?_set_self hlt
 refine ⟨fun i p hq=>?_,s.lt,s.imlt,fun i cs hc=>?_,fun i es ck hc=>?_,fun i ht=>?_,fun i j p q li lj hp' hq' he=>?_⟩
 ·by_cases e:i=id
  ·subst e;exact ⟨k,self,by cases k<;>first|rfl|exact hk.elim⟩
  ·obtain ⟨b',h1,h2⟩:=s.dom i p hq
   exact ⟨b',by rw [List.getElem?_set_ne (Ne.symm e)];exact h1,h2⟩
 ·by_cases e:i=id
  ·subst e
   rw [self] at hc
   cases hc
   obtain ⟨c,el,fz,g⟩:=hk
   exact ⟨b,sh,c,el,fz,hp,g⟩
  ·exact s.cells i cs (old e hc)
 ·by_cases e:i=id
  ·subst e
   rw [self] at hc
   cases hc
   obtain ⟨rfl,res,g⟩:=hk
   exact ⟨b,res,hp,g⟩
  ·exact s.map i es ck (old e hc)
 ·by_cases e:i=id
  ·subst e
   rw [self] at ht
   cases ht
   obtain ⟨c,el,fz,g⟩:=hk
   exact ⟨b,sh,c,el,fz,hp,g⟩
  ·exact s.tok i (old e ht)
 ·by_cases gi:i=id
  ·by_cases gj:j=id
   ·rw [gi,gj]
   ·subst gi
    rw [hp] at hp'
    cases hp'
    exact absurd he.symm (hn j q ((live_set lj).resolve_left gj) hq')
  ·by_cases gj:j=id
   ·subst gj
    rw [hp] at hq'
    cases hq'
    exact absurd he (hn i p ((live_set li).resolve_left gi) hp')
   ·exact s.inj i j p q ((live_set li).resolve_left gi) ((live_set lj).resolve_left gj) hp' hq' he
theorem SR.alone {w:World} {phi:Phi} {im:Imm} {h:Heap} (s:SR w phi im h) {id:Nat} (hl:live h id) {p:Nat × Nat} (hp:phi id=some p):∀ i q,live (h.set id .dead) i→phi i=some q→q.1≠p.1:=by
 intro i q hli hq he
 obtain ⟨b0,hb0,_⟩:=hl
 have hne:i≠id:=fun e=>not_live_dead hb0 (e ▸ hli)
 exact hne (s.inj i id q p ((live_set hli).resolve_left hne) ⟨b0,hb0,by assumption⟩ hq hp he)
theorem SR.write {w:World} {phi:Phi} {im:Imm} {h:Heap} (s:SR w phi im h) {id:Nat} {cs0:List AV} (hi:h[id]?=some (.cells cs0)) {b sh:Nat} (hp:phi id=some (b,sh))
  {w':World} {c:Array Value} {e:TypeId} {fz:Nat × Nat} {c':Array Value} (hw:Wrote w w' b c e fz c') (hz:∀ j,j<c.size→¬ (fz.1≤j∧j<fz.2))
  (hsame:∀ j,j<sh→c'.getD j Go.undef=c.getD j Go.undef)
  {cs:List AV} (hl:sh+cs.length≤c'.size) (hv:∀ (j:Nat) x,cs[j]?=some x→VR w phi im x (c'.getD (sh+j) Go.undef)) :
  SR w' phi im (h.set id (.cells cs))∧Post w phi im w' phi im:=by
 have hlive:live h id:=⟨_,hi,.inl ⟨_,rfl⟩⟩
 obtain ⟨b',sh',c0,e0,fz0,g1,g2,g3,g4,g5,g6⟩:=s.cells id cs0 hi
 rw [hp] at g1
 cases g1
 rw [hw.was] at g2
 cases g2
 have s1:=s.kill hi
 obtain ⟨p1,t1⟩:=s1.turn (b:=b) hw.os hw.tape hw.output hw.size hw.other (fun t ht=>hw.shape b t ht) (fun o ho=>by
  have hlt:o<sh:=Nat.lt_of_not_le fun hle=>g6 o hle ho
  have h1:=hsame o hlt
  have hc:o<c.size:=by omega
  have hc':o<c'.size:=by rw [hw.len];exact hc
  simp only [Array.getD_eq_getD_getElem?,Array.getElem?_eq_getElem hc,Array.getElem?_eq_getElem hc',Option.getD_some] at h1
  simp [World.cell?,hw.now,hw.was,hc,hc',h1]) ⟨id,_,hp,rfl⟩ im (fun _ _ h=>h) fun _ _ h => .inl h
 have s2:=t1 (s.alone hlive hp)
 have s3:=s2.revive (List.getElem?_set_self (set_lt hi)) hp (k:= .cells cs) ⟨c',e,fz,hw.now,hl,fun j x hj=>p1.mono (hv j x hj),fun j hj=>hz j (by rw [← hw.len];exact hj),g6⟩ (s.alone hlive hp)
 rw [List.set_set] at s3
 exact ⟨s3,p1⟩
end Go.AM
