/- The abstract machine: 'acall' answers what the model's call comes to; law for a table of functions. -/
import Derived.Test.YtfhijkapcdmdnaaGreatDoorAmO
namespace Go.AM
variable {G:GTab}
theorem SR.past {w w':World} {phi phi':Phi} {im im':Imm} {h h':Heap} (s:SR w phi im h) (s':SR w' phi' im' h') (p:Post w (fun _=>none) im w' phi' im') :
  SR w' phi (imAll im' phi') h∧Post w phi im w' phi (imAll im' phi'):=by
 have no:∀ b,¬ img (fun _=>none) b:=by rintro b ⟨id,q,hq,_⟩;cases hq
 have keep:∀ b,b<w.heap.size→w'.heap[b]?=w.heap[b]?:=fun b hb=>p.keep b hb (no b)
 have hnew:∀ b o,imAll im' phi' b o→im b o∨w.heap.size≤b:=by
  rintro b o (h|h)
  ·exact (p.imnew b o h).imp (fun h=>h) fun h=>h.elim (fun h=>h) fun h=>(no b h).elim
  ·exact (p.new b h).elim (fun h=>(no b h).elim) .inr
 have up:∀ {x v},VR w phi im x v→VR w' phi (imAll im' phi') x v:=fun hv=>hv.mono p.imkeep p.shape (fun _ _ h=>h) fun b o hb => .inl (p.imext b o hb)
 have nim:∀ b,b<w.heap.size→∀ o,¬ im b o→¬ imAll im' phi' b o:=fun b hb o hi hi'=>(hnew b o hi').elim hi fun q=>by omega
 refine ⟨⟨s.dom,fun id q hq=>Nat.lt_of_lt_of_le (s.lt id q hq) p.size,?_,?_,?_,?_,s.inj⟩,⟨p.os,p.tape,p.output,p.size,fun b hb _=>keep b hb,p.imkeep,p.shape,fun _ _ h=>h,fun _ h => .inl h,fun b o hb => .inl (p.imext b o hb),fun b o h=>(hnew b o h).imp (fun h=>h) .inl⟩⟩
 ·rintro b o (hb|⟨id,q,hq,rfl⟩)
  ·exact s'.imlt b o hb
  ·exact s'.lt id q hq
 ·intro id cs hc
  obtain ⟨b,sh,c,e,fz,h1,h2,h3,h4,h5,h6⟩:=s.cells id cs hc
  have hlt:=s.lt id _ h1
  exact ⟨b,sh,c,e,fz,h1,(keep b hlt).trans h2,h3,fun j x hj=>up (h4 j x hj),h5,fun o ho=>nim b hlt o (h6 o ho)⟩
 ·intro id es ck hm
  obtain ⟨b,res,h1,h2,h3,h4⟩:=s.map id es ck hm
  refine ⟨b,res,h1,(keep b (s.lt id _ h1)).trans h2,h3,fun j k v t hj=>?_⟩
  obtain ⟨x,g1,g2,g3,g4⟩:=h4 j k v t hj
  exact ⟨x,g1,up g2,up g3,g4⟩
 ·intro id ht
  obtain ⟨b,t,c,e,fz,h1,h2,h3,h4⟩:=s.tok id ht
  have hlt:=s.lt id _ h1
  exact ⟨b,t,c,e,fz,h1,(keep b hlt).trans h2,h3,fun o ho=>nim b hlt o (h4 o ho)⟩
section
variable {P:Program}
def FunOK (P:Program) (G:GTab) (g:Nat) (f:AFn):Prop:=∃ fn vals keeps,P.funcs[g]?=some fn∧compF P G vals keeps f.mode fn=some f
def SpecOK (P:Program) (G:GTab) (g:Nat) (F:List AV→Option AV):Prop:=∀ args v,F args=some v→∀ (w:World) (im:Imm) (rargs:Array Value),GOK G w im→rargs.size=args.length→(∀ (i:Nat) x,args[i]?=some x→IR w im x (rargs.getD i Go.undef)) →
 Enters P g∧Calls P g rargs w fun e w'=>∃ rv im',e = .returned rv∧IR w' im' v rv∧RowKit.Below w.heap.size w w'∧(∀ b o,im b o→im' b o)∧∀ b o,im' b o→im b o∨(w.heap.size≤b∧b<w'.heap.size)
def TabOK (P:Program) (G:GTab) (A:Tab):Prop:=∀ g f,A g=some f→FunOK P G g f∨∃ F,f.ext=some F∧f.body = .stuck∧SpecOK P G g F
theorem compF_inv {vals:List Nat} {keeps:List (Nat × List Nat)} {mode:Nat} {fn:Func} {f:AFn} (h:compF P G vals keeps mode fn=some f) :
  ∃ c r, fn.body = some c ∧ f.body = compC P G vals keeps c ∧ compR P fn.results.toList = some r ∧ f.res = r ∧ (fn.name == "runtime.NumGoroutine") = false ∧ f.np ≤ fn.ntmps ∧ f.np = fn.params.size + fn.nfree ∧ f.nt = fn.ntmps := by
 unfold compF at h
 split at h
 ·rename_i c hb
  split at h
  ·rename_i r hr
   split at h
   ·cases h
   ·rename_i hn
    cases h
    simp only [Bool.or_eq_true,decide_eq_true_eq,not_or,Bool.not_eq_true,Nat.not_lt] at hn
    exact ⟨c,r,hb,rfl,hr,rfl,hn.1,hn.2,rfl,rfl⟩
  ·cases h
 ·cases h
theorem body_sound {A:Tab} {cf:CallF} (hcf:CallOK P G cf) (hm:CallMem cf (isPure A)) (hfol:P.follows .mixedOrders=true) {fuel:Nat} {f:AFn} {g:Nat} {fn:Func} {vals:List Nat} {keeps:List (Nat × List Nat)} {mode:Nat} (hg:P.funcs[g]?=some fn) (hc:compF P G vals keeps mode fn=some f)
  {args:List AV} {h h':Heap} {v:AV} {l:List Nat} (hb:abody A cf fuel f args h=some (v,h',l)) {w:World} {phi:Phi} {im:Imm} {rargs:Array Value} (s:SR w phi im h) (hgo:GOK G w im) (hsz:rargs.size=args.length) (hnp:args.length=f.np)
  (ha:∀ (i:Nat) x,args[i]?=some x→VR w phi im x (rargs.getD i Go.undef)) :
  Enters P g∧Calls P g rargs w fun e w'=>∃ rv phi' im',e = .returned rv∧VR w' phi' im' v rv∧SR w' phi' im' h'∧Post w phi im w' phi' im':=by
 obtain ⟨c,r,h1,h2,h3,h4,h5,h6,h7,h8⟩:=compF_inv hc
 refine ⟨⟨fn,hg,h5,by rw [h1];rfl⟩,calls_of_wp hg h1 ?_⟩
 unfold abody at hb
 have er:ER G w phi im (fun t=>args.getD t .undef) (rargs ++ Array.replicate (fn.ntmps - rargs.size) undef):=by
  refine ⟨fun n=>?_,hgo⟩
  by_cases hn:n<args.length
  ·have q:=ha n args[n] (List.getElem?_eq_getElem hn)
   have e1:(rargs ++ Array.replicate (fn.ntmps - rargs.size) undef).getD n undef=rargs.getD n undef:=by
    simp only [Array.getD_eq_getD_getElem?]
    rw [Array.getElem?_append_left (by omega)]
   rw [e1]
   simpa [List.getD_eq_getElem?_getD,hn] using q
  ·have:args.getD n .undef = .undef:=by simp [List.getD_eq_getElem?_getD,List.getElem?_eq_none (Nat.not_lt.1 hn)]
   show VR w phi im (args.getD n .undef) _
   rw [this]
   exact .imm (.undef _)
 have hsize:(rargs ++ Array.replicate (fn.ntmps - rargs.size) undef).size=f.nt:=by
  simp only [Array.size_append,Array.size_replicate];omega
 split at hb
 ·cases hb
 ·rename_i ex st hne hrun
  simp only [Option.map_eq_some_iff] at hb
  obtain ⟨v',hv',hq⟩:=hb
  cases hq
  rw [h2] at hrun
  refine wp_mono (arun_sound hcf hm hfol c hrun (a:={ tmps:=rargs ++ Array.replicate (fn.ntmps - rargs.size) undef,defers:=[] }) er hsize s) ?_
  rintro ee a' w' ⟨rfl,phi',im',x1,x2,x3,x4,x5⟩
  obtain ⟨rv,y1,y2⟩:=results_ok x4 x1 (h4 ▸ h3) hv'
  have fin:a'.defers=[]∧∃ u,(results fn a'.tmps).run P w' = .ok u w'∧∃ rv phi' im',Ending.returned u = .returned rv∧VR w' phi' im' v rv∧SR w' phi' im' st.heap∧Post w phi im w' phi' im' :=
   ⟨x3,rv,y1,rv,phi',im',rfl,y2,x4,x5⟩
  cases ex with
  | normal=>exact fin
  | ret=>exact fin
  | exit i=>exact (hne i rfl).elim
 ·cases hb
theorem own_sound {A:Tab} {k:Nat} (hA:TabOK P G A) (hfol:P.follows .mixedOrders=true) (ih:CallOK P G (acall A k)) {g:Nat} {f:AFn} (hf:A g=some f) {args:List AV} (hnp:args.length=f.np) {v:AV} (hb:aown A (acall A k) k f args=some v)
  {w:World} {phi:Phi} {im:Imm} {h:Heap} {rargs:Array Value} (s:SR w phi im h) (hgo:GOK G w im) (hsz:rargs.size=args.length) (ha:∀ (i:Nat) x,args[i]?=some x→IR w im x (rargs.getD i Go.undef)) :
  Enters P g∧Calls P g rargs w fun e w'=>∃ rv im',e = .returned rv∧IR w' im' v rv∧SR w' phi im' h∧Post w phi im w' phi im':=by
 rcases hA g f hf with ⟨fn,vals,keeps,hg,hcf⟩|⟨F,hF,_,hspec⟩
 case inr =>
  unfold aown at hb
  rw [hF] at hb
  obtain ⟨g1,g2⟩:=hspec args v hb w im rargs hgo hsz ha
  refine ⟨g1,g2.mono ?_⟩
  rintro e w' ⟨rv,im',rfl,z1,z2,z3,z4⟩
  have s0:SR w' (fun _=>none) im' [] :=
   ⟨fun id p hp=>(by cases hp),fun id p hp=>(by cases hp),fun b o hb=>(z4 b o hb).elim (fun q=>Nat.lt_of_lt_of_le (s.imlt b o q) z2.size) (fun q=>q.2),fun id cs hc=>(by simp at hc),fun id es ck hc=>(by simp at hc),fun id ht=>(by simp at ht),(by rintro i j p q ⟨b,hb,_⟩;simp at hb)⟩
  have hcell:∀ b o,im b o→w'.cell? ⟨b,o,none⟩=w.cell? ⟨b,o,none⟩:=fun b o hb=>by simp [World.cell?,z2.block b (s.imlt b o hb)]
  have p0:Post w (fun _=>none) im w' (fun _=>none) im' :=
   ⟨z2.os,z2.tape,z2.output,z2.size,fun b hb _=>z2.block b hb,hcell,fun b t ht=>by simpa [World.shape?,z2.block b (shape_lt ht)] using ht,fun id p hp=>(by cases hp),fun b hb=>(by obtain ⟨id,q,hq,_⟩:=hb;cases hq),z3,fun b o h=>(z4 b o h).imp id fun q => .inl q.1⟩
  obtain ⟨t1,t2⟩:=s.past s0 p0
  exact ⟨rv,_,rfl,z1.mono (fun _ _ _=>rfl) fun b o h => .inl h,t1,t2⟩
 have hne:f.ext=none:=by
  unfold compF at hcf
  split at hcf
  ·split at hcf
   ·split at hcf
    ·cases hcf
    ·rw [← Option.some.inj hcf]
   ·cases hcf
  ·cases hcf
 unfold aown at hb
 rw [hne] at hb
 dsimp only at hb
 split at hb
 ·rename_i v0 h0 w0 hb0
  have s0:SR w (fun _=>none) im [] :=
   ⟨fun id p hp=>(by cases hp),fun id p hp=>(by cases hp),s.imlt,fun id cs hc=>(by simp at hc),fun id es ck hc=>(by simp at hc),fun id ht=>(by simp at ht),(by rintro i j p q ⟨b,hb,_⟩;simp at hb)⟩
  obtain ⟨g1,g2⟩:=body_sound ih (acall_mem A k) hfol hg hcf hb0 s0 hgo hsz hnp (fun i x hx => .imm (ha i x hx))
  refine ⟨g1,g2.mono ?_⟩
  rintro e w' ⟨rv,phi',im',rfl,z1,z2,z3⟩
  obtain ⟨t1,t2⟩:=s.past z2 z3
  exact ⟨rv,_,rfl,reify_sound z2 k v0 v rv hb z1,t1,t2⟩
 ·cases hb
theorem noElems_inv {args:List AV} (h:noElems args=true):∃ c r,args = .is [] c :: r:=by
 unfold noElems at h
 split at h
 ·exact ⟨_,_,rfl⟩
 ·cases h
theorem same1_left {w:World} {im:Imm} {a b c:AV} (h:same1 a b=some c) {v:Value} (hv:IR w im a v):IR w im c v:=by
 unfold same1 at h
 split at h
 ·cases h;exact VR.is_no (phi:=fun _=>none) (.imm hv)
 ·split at h
  ·cases h;exact hv
  ·cases h
 ·split at h
  ·cases h;exact hv
  ·cases h
 ·cases h
theorem same1_right {w:World} {im:Imm} {a b c:AV} (h:same1 a b=some c) {v:Value} (hv:IR w im b v):IR w im c v:=by
 unfold same1 at h
 split at h
 ·cases h;exact VR.is_no (phi:=fun _=>none) (.imm hv)
 ·split at h
  ·rename_i q;cases h;rw [q.1,q.2];exact hv
  ·cases h
 ·split at h
  ·rename_i q;cases h;rw [q];exact hv
  ·cases h
 ·cases h
theorem same2_left {w:World} {im:Imm} {a b c:AV} (h:same2 a b=some c) {v:Value} (hv:IR w im a v):IR w im c v:=by
 unfold same2 at h
 split at h
 ·split at h
  ·rename_i h1 h2
   cases h
   cases hv with
   | tup _ vs hn hr =>
    refine .tup _ vs (by simpa using hn) fun i x hx=>?_
    match i,hx with
    | 0,hx=>simp at hx;subst hx;exact same1_left h1 (hr 0 _ rfl)
    | 1,hx=>simp at hx;subst hx;exact same1_left h2 (hr 1 _ rfl)
  ·cases h
 ·exact same1_left h hv
theorem same2_right {w:World} {im:Imm} {a b c:AV} (h:same2 a b=some c) {v:Value} (hv:IR w im b v):IR w im c v:=by
 unfold same2 at h
 split at h
 ·split at h
  ·rename_i h1 h2
   cases h
   cases hv with
   | tup _ vs hn hr =>
    refine .tup _ vs (by simpa using hn) fun i x hx=>?_
    match i,hx with
    | 0,hx=>simp at hx;subst hx;exact same1_right h1 (hr 0 _ rfl)
    | 1,hx=>simp at hx;subst hx;exact same1_right h2 (hr 1 _ rfl)
  ·cases h
 ·exact same1_right h hv
theorem acall_sound {A:Tab} (hX:XOK P G) (hA:TabOK P G A) (hfol:P.follows .mixedOrders=true):∀ k,CallOK P G (acall A k):=by
 intro k
 induction k with
 | zero=>exact ⟨hX,fun g args h v h' wr hc=>by cases hc⟩
 | succ k ih =>
  refine ⟨hX,?_⟩
  intro g args h v h' wr hc w phi im rargs s hgo hsz ha
  simp only [acall] at hc
  split at hc
  ·cases hc
  ·rename_i f hf
   split at hc
   ·cases hc
   ·rename_i hnp
    have hnp':args.length=f.np:=by omega
    split at hc
    ·rename_i hmi
     have himm:imm.immL args=true:=by simp only [Bool.and_eq_true] at hmi;exact hmi.2
     have hstr:∀ (i:Nat) x,(strip.stripL args)[i]?=some x→IR w im x (rargs.getD i Go.undef):=fun i x hx=>stripL_all (fun i x hx=>(ha i x hx).to_imm (immL_spec himm i x hx)) i x hx
     simp only [Option.map_eq_some_iff] at hc
     obtain ⟨v',hv',hq⟩:=hc
     cases hq
     split at hv'
     ·rename_i h3
      simp only [Bool.and_eq_true] at h3
      obtain ⟨c,r,rfl⟩:=noElems_inv h3.2
      unfold aboth at hv'
      split at hv'
      ·rename_i x1 x2 e1 e2
       have h0:=ha 0 _ rfl
       have fin:∀ {x y:AV},aown A (acall A k) k f (x :: (strip.stripL (.is [] c :: r)).tail)=some y→(∀ {w':World} {im':Imm} {rv:Value},IR w' im' y rv→IR w' im' v rv)→IR w im x (rargs.getD 0 Go.undef) →
         Enters P g∧Calls P g rargs w fun e w'=>∃ rv phi' im',e = .returned rv∧VR w' phi' im' v rv∧SR w' phi' im' h∧Post w phi im w' phi' im':=fun {x y} hb hy hx=>by
        obtain ⟨g1,g2⟩:=own_sound hA hfol ih hf (by simp only [strip.stripL,List.tail_cons,List.length_cons,stripL_len] at hnp' ⊢;exact hnp') hb s hgo (by simp only [strip.stripL,List.tail_cons,List.length_cons,stripL_len] at hsz ⊢;exact hsz) (fun i y hy=>by
         cases i with
         | zero=>simp at hy;subst hy;exact hx
         | succ i=>exact hstr (i+1) y (by simpa [strip.stripL] using hy))
        refine ⟨g1,g2.mono ?_⟩
        rintro e w' ⟨rv,im',rfl,z1,z2,z3⟩
        exact ⟨rv,phi,im',rfl,.imm (hy z1),z2,z3⟩
       rcases h0.nil_split with hx|hx|⟨rcap,hx,hne⟩
       ·exact fin e1 (fun z=>same2_left hv' z) hx
       ·exact fin e2 (fun z=>same2_right hv' z) hx
       ·exfalso
        obtain ⟨base,b,o,sz,rc,vs,hq,hb,_⟩:=h0.is_inv
        rw [hx] at hq
        cases hq
        cases hb (by omega)
      ·cases hv'
     ·obtain ⟨g1,g2⟩:=own_sound hA hfol ih hf (by rw [stripL_len];exact hnp') hv' s hgo (by rw [stripL_len];exact hsz) hstr
      refine ⟨g1,g2.mono ?_⟩
      rintro e w' ⟨rv,im',rfl,z1,z2,z3⟩
      exact ⟨rv,phi,im',rfl,.imm z1,z2,z3⟩
    ·split at hc
     ·cases hc
     ·split at hc
      ·rename_i v0 h0 w0 hb
       cases hc
       rcases hA g f hf with ⟨fn,vals,keeps,hg,hcf⟩|⟨F,hF,hbody,_⟩
       case inr =>
        unfold abody at hb
        rw [hbody] at hb
        simp [arun] at hb
       exact body_sound ih (acall_mem A k) hfol hg hcf hb s hgo hsz hnp' ha
      ·cases hc
end
end Go.AM
