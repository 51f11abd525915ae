/- Types in a table: the plain law; words, tags, widths; rows, members; a new table; what is within a type. -/
import Derived.Test.YtfhijkapcdmdnaaGreatDoorFns
import Derived.Test.YtfhijkapcdmdnaaGreatDoorAmW
namespace Go.Proofs.YtfhijkapcdmdnaaGreatDoor
open Go.AM
set_option maxRecDepth 20000
set_option maxHeartbeats 4000000
set_option linter.unusedSimpArgs false
set_option linter.unusedVariables false
set_option maxHeartbeats 4000000
abbrev Mem:=List UInt8 × Int × Int
structure TR where
 kind:Int
 elem:Int
 len:Int
 tag:List UInt8
 mem:List Mem
 done:Bool
 cap:Go.AM.Cap
def isDg (n:Nat):Bool:=decide (48≤n∧n≤57)
def isLt (n:Nat):Bool:=decide ((65≤n∧n≤90)∨(97≤n∧n≤122)∨n=95)
def isTl (n:Nat):Bool:=isLt n || isDg n
def wordS (s:List UInt8):Bool:=match s with
 | []=>false
 | b :: t=>isLt b.toNat && (t.all fun c=>isTl c.toNat) && decide ((b :: t).length≤63)
def tagS (s:List UInt8):Bool:=match s with
 | []=>false
 | b :: t=>if b=35 then decide (t≠[]) && decide (t.length≤9) && t.all (fun c=>isDg c.toNat) else wordS (b :: t)
def getT (rows:List TR) (id:Int):Option TR:=if 0≤id then rows[id.toNat]? else none
def kindS (rows:List TR) (id:Int):Int:=match getT rows id with|some r=>r.kind|none=>0
def wholeR (r:TR):Bool:=if r.kind=0∨r.kind=1 then false else if r.kind=14 then decide (0≤r.len) else if r.kind=15∨r.kind=16 then r.done else true
def wholeS (rows:List TR) (id:Int):Bool:=match getT rows id with|some r=>wholeR r|none=>false
def rwholeR (r:TR):Bool:=if r.kind=14 then decide (1≤r.len) else if r.kind=15∨r.kind=16 then r.done else decide (1<r.kind)
def rwholeS (rows:List TR) (id:Int):Bool:=match getT rows id with|some r=>rwholeR r|none=>false
def widthS (k:Int):Int:=if 2≤k∧k≤5 then 1 else if k=6∨k=7 then 2 else if 8≤k∧k≤13 then 4 else 0
def wideK (k bits:Int):Bool:=if k<2∨12<k∨bits<0 then false else if k=2 then decide (bits≤1) else decide (bits≤8*widthS k)
def memE (whole:Int→Bool) (kind:Int→Int) (has:Int→Bool) (seen:List (List UInt8)) (m:Mem):Int :=
 if has m.2.1=false then 30 else if whole m.2.1=false then 50 else if m.2.2 ≠ -1∧wideK (kind m.2.1) m.2.2=false then 52
 else if m.1=[] then (if m.2.2<0 then 31 else 0)
 else if wordS m.1=false∨m.2.2=0∨m.1 ∈ seen then 31 else 0
def memsE (whole:Int→Bool) (kind:Int→Int) (has:Int→Bool):List (List UInt8)→List Mem→Int
 | _,[]=>0
 | seen,m :: r=>if memE whole kind has seen m=0 then memsE whole kind has (seen ++ [m.1]) r else memE whole kind has seen m
def hasS (rows:List TR) (id:Int):Bool:=(getT rows id).isSome
def membersE (whole:Int→Bool) (kind:Int→Int) (has:Int→Bool) (l:List Mem):Int :=
 if l.length<1∨64<l.length then 2 else memsE whole kind has [] l
def longS (n:Int):Bool:=decide (n = -1∨(1≤n∧n≤16384))
def shapedR (i:Nat) (r:TR):Bool :=
 if r.kind=13 then decide (r.len=0∧r.tag=[]∧r.mem=[]∧r.done=false∧0≤r.elem∧r.elem<i)
 else if r.kind=14 then decide (r.tag=[]∧r.mem=[]∧r.done=false∧0≤r.elem∧r.elem<i) && longS r.len
 else if r.kind=12 then decide (r.elem=0∧r.len=0∧r.mem=[]∧r.done=false) && tagS r.tag
 else if r.kind=15∨r.kind=16 then decide (r.elem=0∧r.len=0∧(r.done=false→r.mem=[])) && tagS r.tag
 else false
def basicR (i:Nat) (r:TR):Bool:=decide (r.kind=i+1∧r.elem=0∧r.len=0∧r.tag=[]∧r.mem=[]∧r.done=false)
def keyR (r:TR):Int × Int × Int:=(r.kind,r.elem,r.len)
def isPA (r:TR):Bool:=decide (r.kind=13∨r.kind=14)
def twiceS (rows:List TR) (i:Nat) (r:TR):Bool:=isPA r && (rows.take i).any fun q=>decide (keyR q=keyR r)
def deps (r:TR):List Int:=(if r.kind=14 then [r.elem] else []) ++ r.mem.map (·.2.1)
mutual
def withinS (rows:List TR):Nat→Nat→List Int→Option (Bool × List Int)
 | 0,_,_=>none
 | f+1,id,st =>
  if st[id]?=some 1 then some (false,st) else if st[id]?=some 2 then some (true,st)
  else match rows[id]? with
   | none=>none
   | some r=>match withinL rows f (deps r) (st.set id 1) with
    | none=>none
    | some (false,st')=>some (false,st')
    | some (true,st')=>some (true,st'.set id 2)
termination_by f _ _=>(f,0)
def withinL (rows:List TR):Nat→List Int→List Int→Option (Bool × List Int)
 | _,[],st=>some (true,st)
 | f,d :: ds,st=>match withinS rows f d.toNat st with
  | none=>none
  | some (false,st')=>some (false,st')
  | some (true,st')=>withinL rows f ds st'
termination_by f ds _=>(f,ds.length+1)
end
def Ranked (rows:List TR) (rho:Nat→Nat):Prop:=∀ (i:Nat) r,rows[i]?=some r→∀ d ∈ deps r,0≤d∧d.toNat<rows.length∧rho d.toNat<rho i
def Vals (rows:List TR) (st:List Int):Prop:=st.length=rows.length∧∀ (i:Nat) x,st[i]?=some x→x=0∨x=1∨x=2
theorem vals_set {rows:List TR} {st:List Int} (h:Vals rows st) (id:Nat) {v:Int} (hv:v=1∨v=2):Vals rows (st.set id v):=by
 refine ⟨by rw [List.length_set];exact h.1,fun i x hx=>?_⟩
 rw [List.getElem?_set] at hx
 split at hx
 ·split at hx
  ·cases hx;exact .inr hv
  ·cases hx
 ·exact h.2 i x hx
theorem within_ok {rows:List TR} {rho:Nat→Nat} (hr:Ranked rows rho):∀ (f:Nat),
  (∀ (id:Nat) (st:List Int),rho id<f→id<rows.length→Vals rows st→(∀ i:Nat,st[i]?=some 1→rho id<rho i)→∃ st',withinS rows f id st=some (true,st')∧Vals rows st'∧∀ i:Nat,st'[i]?=some 1↔st[i]?=some 1) ∧
  (∀ (ds st:List Int),(∀ d ∈ ds,0≤d∧d.toNat<rows.length∧rho d.toNat<f∧∀ i:Nat,st[i]?=some 1→rho d.toNat<rho i)→Vals rows st→∃ st',withinL rows f ds st=some (true,st')∧Vals rows st'∧∀ i:Nat,st'[i]?=some 1↔st[i]?=some 1):=by
 intro f
 induction f with
 | zero =>
  refine ⟨fun id st h=>by omega,fun ds st h hs=>?_⟩
  cases ds with
  | nil=>exact ⟨st,by rw [withinL],hs,fun _=>Iff.rfl⟩
  | cons d ds=>have:=(h d (by simp)).2.2.1;omega
 | succ f ih =>
  have hS:∀ (id:Nat) (st:List Int),rho id<f+1→id<rows.length→Vals rows st→(∀ i:Nat,st[i]?=some 1→rho id<rho i)→∃ st',withinS rows (f+1) id st=some (true,st')∧Vals rows st'∧∀ i:Nat,st'[i]?=some 1↔st[i]?=some 1:=by
   intro id st h1 h3 hs ho
   rw [withinS]
   have hid:id<st.length:=by rw [hs.1];exact h3
   have hg:st[id]?=some st[id]:=List.getElem?_eq_getElem hid
   rcases hs.2 id _ hg with h0|h0|h0
   ·rw [hg,h0,if_neg (by decide),if_neg (by decide),List.getElem?_eq_getElem h3]
    dsimp only
    have hone:∀ i:Nat,(st.set id 1)[i]?=some 1↔i=id∨st[i]?=some 1:=by
     intro i
     rw [List.getElem?_set]
     by_cases e:id=i
     ·subst e
      rw [if_pos rfl,if_pos hid]
      simp
     ·rw [if_neg e]
      constructor
      ·exact .inr
      ·rintro (q|q)
       ·exact absurd q.symm e
       ·exact q
    obtain ⟨st',g1,g2,g3⟩:=ih.2 (deps rows[id]) (st.set id 1) (fun d hd=>by
     obtain ⟨q1,q2,q3⟩:=hr id _ (List.getElem?_eq_getElem h3) d hd
     refine ⟨q1,q2,by omega,fun i hi=>?_⟩
     rcases (hone i).1 hi with e|e
     ·rw [e];exact q3
     ·have:=ho i e;omega) (vals_set hs id (.inl rfl))
    rw [g1]
    refine ⟨_,rfl,vals_set g2 id (.inr rfl),fun i=>?_⟩
    rw [List.getElem?_set]
    by_cases e:id=i
    ·subst e
     rw [if_pos rfl,if_pos (by rw [g2.1];exact h3),hg,h0]
     simp
    ·rw [if_neg e,g3 i,hone i]
     constructor
     ·rintro (q|q)
      ·exact absurd q.symm e
      ·exact q
     ·exact .inr
   ·have:=ho id (by rw [hg,h0])
    omega
   ·rw [hg,h0,if_neg (by decide),if_pos rfl]
    exact ⟨st,rfl,hs,fun _=>Iff.rfl⟩
  refine ⟨hS,?_⟩
  intro ds
  induction ds with
  | nil=>intro st _ hs;exact ⟨st,by rw [withinL],hs,fun _=>Iff.rfl⟩
  | cons d ds ihd =>
   intro st h hs
   obtain ⟨q1,q2,q3,q4⟩:=h d (by simp)
   obtain ⟨st',g1,g2,g3⟩:=hS d.toNat st q3 q2 hs q4
   rw [withinL,g1]
   obtain ⟨st2,k1,k2,k3⟩:=ihd st' (fun x hx=>by
    obtain ⟨p1,p2,p3,p4⟩:=h x (by simp [hx])
    exact ⟨p1,p2,p3,fun i hi=>p4 i ((g3 i).1 hi)⟩) g2
   exact ⟨st2,k1,k2,fun i=>(k3 i).trans (g3 i)⟩
def withinA (rows:List TR) (f:Nat):Nat→Nat→List Int→Option (Bool × List Int)
 | 0,_,st=>some (true,st)
 | n+1,id,st=>match withinS rows f id st with
  | none=>none
  | some (false,st')=>some (false,st')
  | some (true,st')=>withinA rows f n (id+1) st'
theorem withinA_ok {rows:List TR} {rho:Nat→Nat} (hr:Ranked rows rho) {f:Nat} (hf:∀ i,i<rows.length→rho i<f):∀ (n id:Nat) (st:List Int),id+n=rows.length→Vals rows st→(∀ i:Nat,st[i]?≠some 1)→∃ st',withinA rows f n id st=some (true,st'):=by
 intro n
 induction n with
 | zero=>intro id st _ _ _;exact ⟨st,rfl⟩
 | succ n ih =>
  intro id st h hs h1
  obtain ⟨st',g1,g2,g3⟩:=(within_ok hr f).1 id st (hf id (by omega)) (by omega) hs (fun i hi=>absurd hi (h1 i))
  simp only [withinA,g1]
  exact ih (id+1) st' (by omega) g2 fun i hi=>h1 i ((g3 i).1 hi)
def okD (ok:List Bool) (d:Int):Bool:=ok.getD d.toNat false
def passS (rows:List TR):Nat→Nat→List Bool→Bool→List Bool × Bool
 | 0,_,ok,again=>(ok,again)
 | n+1,i,ok,again=>match rows[i]? with
  | none=>(ok,again)
  | some r=>if (deps r).all (okD ok)=true∧ok.getD i false=false then passS rows n (i+1) (ok.set i true) true else passS rows n (i+1) ok again
def groundS (rows:List TR):Nat→List Bool→Option (List Bool)
 | 0,_=>none
 | f+1,ok=>match passS rows rows.length 0 ok false with
  | (ok',true)=>groundS rows f ok'
  | (ok',false)=>some ok'
def Good (rows:List TR) (ok:List Bool) (rho:Nat→Nat):Prop:=ok.length=rows.length∧∀ (i:Nat) r,rows[i]?=some r→ok[i]?=some true→∀ d ∈ deps r,ok[d.toNat]?=some true∧rho d.toNat<rho i
theorem okD_true {ok:List Bool} {d:Int} (h:okD ok d=true):ok[d.toNat]?=some true:=by
 unfold okD at h
 rw [List.getD_eq_getElem?_getD] at h
 cases q:ok[d.toNat]? with
 | none=>rw [q] at h;cases h
 | some b=>rw [q] at h;simp at h;rw [h]
def maxRho (rho:Nat→Nat):List Int→Nat
 | []=>0
 | d :: r=>max (rho d.toNat+1) (maxRho rho r)
theorem maxRho_lt {rho:Nat→Nat}:∀ {l:List Int} {d:Int},d ∈ l→rho d.toNat<maxRho rho l:=by
 intro l
 induction l with
 | nil=>intro d h;cases h
 | cons x r ih =>
  intro d h
  rcases List.mem_cons.1 h with rfl|h
  ·simp only [maxRho];omega
  ·have:=ih h;simp only [maxRho];omega
theorem good_set {rows:List TR} {ok:List Bool} {rho:Nat→Nat} (hg:Good rows ok rho) {i:Nat} {r:TR} (hi:rows[i]?=some r) (hd:(deps r).all (okD ok)=true) (hn:ok.getD i false=false):∃ rho',Good rows (ok.set i true) rho':=by
 have hil:i<rows.length:=(List.getElem?_eq_some_iff.1 hi).1
 have hni:ok[i]?=some false:=by
  rw [List.getD_eq_getElem?_getD,List.getElem?_eq_getElem (by rw [hg.1];exact hil)] at hn
  simp at hn
  rw [List.getElem?_eq_getElem (by rw [hg.1];exact hil),hn]
 refine ⟨fun j=>if j=i then maxRho rho (deps r) else rho j,by rw [List.length_set];exact hg.1,fun j q hj hok d hd2=>?_⟩
 have hset:∀ k:Nat,ok[k]?=some true→(ok.set i true)[k]?=some true:=by
  intro k hk
  rw [List.getElem?_set]
  split
  ·rw [if_pos (by rw [hg.1];exact hil)]
  ·exact hk
 by_cases e:j=i
 ·subst e
  rw [hi] at hj
  cases hj
  have h1:=okD_true (List.all_eq_true.1 hd d hd2)
  have hne:d.toNat≠j:=fun e=>by rw [e,hni] at h1;cases h1
  refine ⟨hset _ h1,?_⟩
  simp only [if_neg hne,if_true]
  exact maxRho_lt hd2
 ·rw [List.getElem?_set,if_neg (fun q=>e q.symm)] at hok
  obtain ⟨h1,h2⟩:=hg.2 j q hj hok d hd2
  have hne:d.toNat≠i:=fun e=>by rw [e,hni] at h1;cases h1
  refine ⟨hset _ h1,?_⟩
  simp only [if_neg hne,if_neg e]
  exact h2
theorem pass_good {rows:List TR}:∀ (n i:Nat) (ok:List Bool) (again:Bool),(∃ rho,Good rows ok rho)→∃ rho,Good rows (passS rows n i ok again).1 rho:=by
 intro n
 induction n with
 | zero=>intro i ok again h;exact h
 | succ n ih =>
  intro i ok again h
  unfold passS
  cases hi:rows[i]? with
  | none=>exact h
  | some r =>
   dsimp only
   split
   ·rename_i q
    obtain ⟨rho,hg⟩:=h
    exact ih _ _ _ (good_set hg hi q.1 q.2)
   ·exact ih _ _ _ h
theorem ground_good {rows:List TR}:∀ (f:Nat) (ok ok':List Bool),(∃ rho,Good rows ok rho)→groundS rows f ok=some ok'→∃ rho,Good rows ok' rho:=by
 intro f
 induction f with
 | zero=>intro ok ok' _ h;cases h
 | succ f ih =>
  intro ok ok' h hg
  have hp:=pass_good (rows:=rows) rows.length 0 ok false h
  unfold groundS at hg
  cases hq:passS rows rows.length 0 ok false with
  | mk a b =>
   rw [hq] at hg hp
   cases b with
   | true=>exact ih a ok' hp hg
   | false=>cases hg;exact hp
theorem good0 (rows:List TR):Good rows (List.replicate rows.length false) fun _=>0:=by
 refine ⟨by simp,fun i r _ h=>?_⟩
 rw [List.getElem?_replicate] at h
 split at h<;>simp at h
theorem good_ranked {rows:List TR} {ok:List Bool} {rho:Nat→Nat} (hg:Good rows ok rho) (hall:∀ i,i<rows.length→ok[i]?=some true) (hd:∀ r ∈ rows,∀ d ∈ deps r,0≤d):Ranked rows rho:=by
 intro i r hi d hdr
 have hil:=(List.getElem?_eq_some_iff.1 hi).1
 obtain ⟨h1,h2⟩:=hg.2 i r hi (hall i hil) d hdr
 have:=(List.getElem?_eq_some_iff.1 h1).1
 rw [hg.1] at this
 exact ⟨hd r (List.mem_of_getElem? hi) d hdr,this,h2⟩
def plainR (r:TR):Bool:=decide (r.mem=[]∧r.done=false)
def rshapedS (rows:List TR) (i:Nat) (r:TR):Bool :=
 if i<11 then basicR i r
 else if r.kind=12 then decide (r.elem=0∧r.len=0) && (tagS r.tag && plainR r)
 else if r.kind=15∨r.kind=16 then decide (r.elem=0∧r.len=0) && (tagS r.tag && (plainR r || (r.done && decide (membersE (rwholeS rows) (kindS rows) (hasS rows) r.mem=0))))
 else if r.kind=13 then decide (0≤r.elem∧r.elem<i∧r.len=0∧r.tag=[]) && plainR r
 else if r.kind=14 then decide (0≤r.elem∧r.elem<i) && (longS r.len && (decide (r.tag=[]) && (plainR r && rwholeS rows r.elem)))
 else false
structure AccR (rows:List TR):Prop where
 lo:11≤rows.length
 hi:rows.length≤512
 row:∀ i r,rows[i]?=some r→rshapedS rows i r=true∧twiceS rows i r=false
 ground:∃ f ok,groundS rows f (List.replicate rows.length false)=some ok∧∀ i,i<rows.length→ok[i]?=some true
structure AccP (rows:List TR):Prop where
 lo:11≤rows.length
 hi:rows.length≤512
 basic:∀ i r,rows[i]?=some r→i<11→basicR i r=true
 row:∀ i r,rows[i]?=some r→11≤i→shapedR i r=true∧twiceS rows i r=false
 whole:∀ r ∈ rows,r.kind=14→wholeS rows r.elem=true
 mems:∀ r ∈ rows,r.done=true→membersE (wholeS rows) (kindS rows) (hasS rows) r.mem=0
 rank:∃ rho,Ranked rows rho
theorem rwhole_whole (rows:List TR) (id:Int) (h:rwholeS rows id=true):wholeS rows id=true:=by
 unfold rwholeS at h
 unfold wholeS
 cases hg:getT rows id with
 | none=>rw [hg] at h;cases h
 | some r =>
  rw [hg] at h
  dsimp only at h ⊢
  unfold rwholeR at h
  unfold wholeR
  split at h
  ·rename_i k;rw [if_neg (by omega),if_pos k];simp only [decide_eq_true_eq] at h ⊢;omega
  ·rename_i k
   split at h
   ·rename_i k2;rw [if_neg (by omega),if_neg k,if_pos k2];exact h
   ·rename_i k2
    simp only [decide_eq_true_eq] at h
    rw [if_neg (by omega),if_neg k,if_neg k2]
theorem memE_mono {w w':Int→Bool} (hw:∀ x,w x=true→w' x=true) {k:Int→Int} {h:Int→Bool} {seen:List (List UInt8)} {m:Mem} (q:memE w k h seen m=0):memE w' k h seen m=0:=by
 unfold memE at q ⊢
 split at q
 ·cases q
 ·rename_i h1
  rw [if_neg h1]
  split at q
  ·cases q
  ·rename_i h2
   have:w' m.2.1=true:=hw _ (by simpa using h2)
   rw [if_neg (by rw [this];simp)]
   exact q
theorem memsE_mono {w w':Int→Bool} (hw:∀ x,w x=true→w' x=true) {k:Int→Int} {h:Int→Bool}:∀ {l:List Mem} {seen:List (List UInt8)},memsE w k h seen l=0→memsE w' k h seen l=0:=by
 intro l
 induction l with
 | nil=>intro seen _;rfl
 | cons m r ih =>
  intro seen q
  unfold memsE at q ⊢
  split at q
  ·rename_i h1
   rw [if_pos (memE_mono hw h1)]
   exact ih q
  ·rename_i h1;exact absurd q h1
theorem membersE_mono {w w':Int→Bool} (hw:∀ x,w x=true→w' x=true) {k:Int→Int} {h:Int→Bool} {l:List Mem} (q:membersE w k h l=0):membersE w' k h l=0:=by
 unfold membersE at q ⊢
 split at q
 ·cases q
 ·rename_i h1
  rw [if_neg h1]
  exact memsE_mono hw q
theorem memsE_has {w:Int→Bool} {k:Int→Int} {h:Int→Bool}:∀ {l:List Mem} {seen:List (List UInt8)},memsE w k h seen l=0→∀ m ∈ l,h m.2.1=true∧w m.2.1=true:=by
 intro l
 induction l with
 | nil=>intro seen _ m hm;cases hm
 | cons x r ih =>
  intro seen q m hm
  unfold memsE at q
  split at q
  ·rename_i h1
   rcases List.mem_cons.1 hm with rfl|hm
   ·unfold memE at h1
    split at h1
    ·cases h1
    ·rename_i a1
     split at h1
     ·cases h1
     ·rename_i a2
      exact ⟨by simpa using a1,by simpa using a2⟩
   ·exact ih q m hm
  ·rename_i h1;exact absurd q h1
theorem has_lt {rows:List TR} {id:Int} (h:hasS rows id=true):0≤id∧id.toNat<rows.length:=by
 unfold hasS getT at h
 split at h
 ·rename_i h0
  rw [Option.isSome_iff_exists] at h
  obtain ⟨r,hr⟩:=h
  exact ⟨h0,(List.getElem?_eq_some_iff.1 hr).1⟩
 ·cases h
theorem acc_deps {rows:List TR} (h:AccR rows):∀ r ∈ rows,∀ d ∈ deps r,0≤d:=by
 intro r hr d hd
 obtain ⟨i,hi⟩:=List.mem_iff_getElem?.1 hr
 obtain ⟨hs,_⟩:=h.row i r hi
 unfold deps at hd
 unfold rshapedS at hs
 split at hs
 ·unfold basicR at hs
  simp only [decide_eq_true_eq] at hs
  obtain ⟨h1,h2,h3,h4,h5,h6⟩:=hs
  rw [h5] at hd
  rename_i hlt
  rw [if_neg (by omega)] at hd
  simp at hd
 ·split at hs
  ·rename_i k
   simp only [plainR,Bool.and_eq_true,decide_eq_true_eq] at hs
   rw [hs.2.2.1,if_neg (by omega)] at hd
   simp at hd
  ·split at hs
   ·rename_i k
    rw [if_neg (by omega),List.nil_append] at hd
    simp only [plainR,Bool.and_eq_true,Bool.or_eq_true,decide_eq_true_eq] at hs
    rcases hs.2.2 with q|q
    ·rw [q.1] at hd;cases hd
    ·obtain ⟨m,hm,rfl⟩:=List.mem_map.1 hd
     have hq:=q.2
     unfold membersE at hq
     split at hq
     ·cases hq
     ·exact (has_lt (memsE_has hq m hm).1).1
   ·split at hs
    ·rename_i k
     simp only [plainR,Bool.and_eq_true,decide_eq_true_eq] at hs
     rw [hs.2.1,if_neg (by omega)] at hd
     simp at hd
    ·split at hs
     ·rename_i k
      simp only [plainR,Bool.and_eq_true,decide_eq_true_eq] at hs
      rw [hs.2.2.2.1.1,if_pos k] at hd
      simp at hd
      rw [hd];exact hs.1.1
     ·cases hs
theorem acc_imp {rows:List TR} (h:AccR rows):AccP rows:=by
 refine ⟨h.lo,h.hi,fun i r hi hlt=>?_,fun i r hi hge=>⟨?_,(h.row i r hi).2⟩,fun r hr hk=>?_,fun r hr hd=>?_,?_⟩
 ·have:=(h.row i r hi).1
  unfold rshapedS at this
  rwa [if_pos hlt] at this
 ·have hs:=(h.row i r hi).1
  unfold rshapedS at hs
  rw [if_neg (by omega)] at hs
  unfold shapedR
  split at hs
  ·rename_i k
   simp only [plainR,Bool.and_eq_true,decide_eq_true_eq] at hs
   rw [if_neg (by omega),if_neg (by omega),if_pos k]
   simp [hs]
  ·rename_i k12
   split at hs
   ·rename_i k
    simp only [plainR,Bool.and_eq_true,Bool.or_eq_true,decide_eq_true_eq] at hs
    rw [if_neg (by omega),if_neg (by omega),if_neg k12,if_pos k]
    rcases hs.2.2 with q|q
    ·simp [hs.1,hs.2.1,q]
    ·simp [hs.1,hs.2.1,q]
   ·rename_i k15
    split at hs
    ·rename_i k
     simp only [plainR,Bool.and_eq_true,decide_eq_true_eq] at hs
     rw [if_pos k]
     simp [hs]
    ·rename_i k13
     split at hs
     ·rename_i k
      simp only [plainR,Bool.and_eq_true,decide_eq_true_eq] at hs
      rw [if_neg k13,if_pos k]
      simp [hs]
     ·cases hs
 ·obtain ⟨i,hi⟩:=List.mem_iff_getElem?.1 hr
  have hs:=(h.row i r hi).1
  unfold rshapedS at hs
  split at hs
  ·unfold basicR at hs
   simp only [decide_eq_true_eq] at hs
   omega
  ·simp only [hk,show ¬ (14:Int)=12 by decide,show ¬ ((14:Int)=15∨(14:Int)=16) by decide,show ¬ (14:Int)=13 by decide,if_false,if_true,Bool.and_eq_true] at hs
   exact rwhole_whole _ _ hs.2.2.2.2
 ·obtain ⟨i,hi⟩:=List.mem_iff_getElem?.1 hr
  have hs:=(h.row i r hi).1
  unfold rshapedS at hs
  split at hs
  ·unfold basicR at hs
   simp only [decide_eq_true_eq] at hs
   rw [hd] at hs
   simp at hs
  ·split at hs
   ·simp only [plainR,Bool.and_eq_true,decide_eq_true_eq] at hs
    rw [hd] at hs
    simp at hs
   ·split at hs
    ·simp only [plainR,Bool.and_eq_true,Bool.or_eq_true,decide_eq_true_eq] at hs
     rcases hs.2.2 with q|q
     ·rw [hd] at q;simp at q
     ·exact membersE_mono (rwhole_whole rows) q.2
    ·split at hs
     ·simp only [plainR,Bool.and_eq_true,decide_eq_true_eq] at hs
      rw [hd] at hs
      simp at hs
     ·split at hs
      ·simp only [plainR,Bool.and_eq_true,decide_eq_true_eq] at hs
       rw [hd] at hs
       simp at hs
      ·cases hs
 ·obtain ⟨f,ok,h1,h2⟩:=h.ground
  obtain ⟨rho,hg⟩:=ground_good f _ ok ⟨_,good0 rows⟩ h1
  exact ⟨rho,good_ranked hg h2 (acc_deps h)⟩
theorem rank_within {rows:List TR} (h:∃ rho,Ranked rows rho):∃ f st,withinA rows f rows.length 0 (List.replicate rows.length 0)=some (true,st):=by
 obtain ⟨rho,hr⟩:=h
 have hb:∃ F,∀ i,i<rows.length→rho i<F:=by
  have:∀ n,∃ F,∀ i,i<n→rho i<F:=by
   intro n
   induction n with
   | zero=>exact ⟨0,fun i h=>by omega⟩
   | succ n ih =>
    obtain ⟨F,hF⟩:=ih
    refine ⟨max F (rho n+1),fun i hi=>?_⟩
    by_cases e:i=n
    ·subst e;omega
    ·have:=hF i (by omega);omega
  exact this _
 obtain ⟨F,hF⟩:=hb
 obtain ⟨st,hst⟩:=withinA_ok hr hF rows.length 0 (List.replicate rows.length 0) (by omega) (by
  refine ⟨by simp,fun i x hx=>?_⟩
  rw [List.getElem?_replicate] at hx
  split at hx
  ·cases hx;exact .inl rfl
  ·cases hx) (by
  intro i hi
  rw [List.getElem?_replicate] at hi
  split at hi
  ·cases hi
  ·cases hi)
 exact ⟨F,st,hst⟩
theorem obound_some (e:Env) (y d:Nat) (x:AO):obound e y d (some x)=abound y (ev e x):=rfl
theorem obound_none (e:Env) (y d:Nat):obound e y d none=some d:=rfl
theorem abound_int (y:Nat) (k:IntKind) (i:Int):abound y (.int k i)=if 0≤i∧i≤y then some i.toNat else none:=rfl
theorem cw64 (n:Nat) (h:n<4611686018427387904):IntKind.i64.wrap (n+1)=(n:Int)+1:=IntWalk.i64_in _ (by omega)
theorem cbyte_all {p:Nat→Bool} (h:(List.range 256).all p=true) (b:UInt8):p b.toNat=true:=List.all_eq_true.1 h b.toNat (List.mem_range.2 (UInt8.toNat_lt b))
def cor32 (n:Nat):Nat:=if (n / 32) % 2=1 then n else n+32
theorem cor32_ok (b:UInt8):orI .u8 (b.toNat:Int) 32=(cor32 b.toNat:Int):=by
 have h:=cbyte_all (p:=fun n=>decide (orI .u8 (n:Int) 32=(cor32 n:Int))) (by decide +kernel) b
 simpa using h
theorem isLt_or (b:UInt8):isLt b.toNat=decide (b.toNat=95∨(97≤cor32 b.toNat∧cor32 b.toNat≤122)):=by
 have h:=cbyte_all (p:=fun n=>isLt n == decide (n=95∨(97≤cor32 n∧cor32 n≤122))) (by decide +kernel) b
 simpa using h
def okFrom:Nat→List UInt8→Bool
 | _,[]=>true
 | i,c :: t=>(isLt c.toNat || (decide (i≠0) && isDg c.toNat)) && okFrom (i+1) t
theorem okFrom_pos:∀ (t:List UInt8) (i:Nat),i≠0→okFrom i t=t.all fun c=>isTl c.toNat:=by
 intro t
 induction t with
 | nil=>intro i _;rfl
 | cons c t ih =>
  intro i h
  simp only [okFrom,ih (i+1) (by omega),List.all_cons,isTl,h,ne_eq,not_false_eq_true,decide_true,Bool.true_and]
theorem word_from (s:List UInt8):wordS s=(decide (s≠[]) && decide (s.length≤63) && okFrom 0 s):=by
 cases s with
 | nil=>rfl
 | cons b t =>
  simp only [wordS,okFrom,okFrom_pos t 1 (by decide)]
  simp
  cases isLt b.toNat<;>cases (t.all fun c=>isTl c.toNat)<;>simp
theorem letters_loop (s:List UInt8) (hs:s.length≤16777216) (h:Heap):∀ (r:List UInt8) (i:Nat),s.drop i=r→i≤s.length →
  Brun tab 45 (.loop f120l4) (ofL [(0,.str s),(13,.int .i64 s.length),(14,.int .i64 i)]) h =
   if okFrom i r=true then some (.exit 0,ofL [(0,.str s),(13,.int .i64 s.length),(14,.int .i64 s.length),(15,.bool false)],h) else some (.ret,ofL [(2,.bool false)],h):=by
 intro r
 induction r with
 | nil =>
  intro i hr hi
  have hlen:=congrArg List.length hr
  simp only [List.length_drop,List.length_nil] at hlen
  have e2:(s.length:Int)=i:=by omega
  rw [Brun_loop,show okFrom i []=true from rfl,if_pos rfl]
  clear hs hr hi hlen
  repeat (any_goals first|simp -dsimp (maxSteps:=4000000) (maxDischargeDepth:=8) -implicitDefEqProofs [*,-Int.not_le,-Int.not_lt,amLt]|with_reducible (first|apply cB|apply iB)<;>intro _|intro _)
 | cons c r ih =>
  intro i hr hi
  have hlen:=congrArg List.length hr
  simp only [List.length_drop,List.length_cons] at hlen
  have hb:s[i]?=some c:=by
   have:=congrArg (·[0]?) hr
   simpa using this
  have htl:s.drop (i+1)=r:=by
   have:=congrArg List.tail hr
   simpa using this
  have e3:¬ (s.length:Int)≤i:=by omega
  have hw:=cw64 i (by omega)
  have ih2:=ih (i+1) htl (by omega)
  push_cast at ih2
  have ho:=cor32_ok c
  have hL:=isLt_or c
  rw [Brun_loop,show okFrom i (c :: r)=((isLt c.toNat || (decide (i≠0) && isDg c.toNat)) && okFrom (i+1) r) from rfl]
  generalize cor32 c.toNat=u at *
  generalize okFrom (i+1) r=q at *
  clear ih hs hi hr hlen htl
  cases hl:isLt c.toNat with
  | true =>
   simp only [Bool.true_or,Bool.true_and]
   rw [hl] at hL
   replace hL:c.toNat=95∨(97≤u∧u≤122):=by simpa using hL.symm
   by_cases h95:(c.toNat:Int)=95
   ·clear hL
    repeat (any_goals first|simp -dsimp (maxSteps:=4000000) (maxDischargeDepth:=8) -implicitDefEqProofs [*,-Int.not_le,-Int.not_lt,amLt]|with_reducible (first|apply cB|apply iB)<;>intro _|intro _)
   ·have u1:¬ (u:Int)<97:=by omega
    have u2:¬ (122:Int)<u:=by omega
    have u3:(97:Int)≤u:=by omega
    have u4:(u:Int)≤122:=by omega
    clear hL
    repeat (any_goals first|simp -dsimp (maxSteps:=4000000) (maxDischargeDepth:=8) -implicitDefEqProofs [*,-Int.not_le,-Int.not_lt,amLt]|with_reducible (first|apply cB|apply iB)<;>intro _|intro _)
  | false =>
   rw [hl] at hL
   replace hL:¬ (c.toNat=95∨(97≤u∧u≤122)):=by simpa using hL.symm
   have h95:¬ (c.toNat:Int)=95:=by omega
   have hu:¬ (97:Int)≤u∨((97:Int)≤u∧¬ (u:Int)≤122):=by omega
   by_cases hi0:i=0
   ·have e:(false || (decide (i≠0) && isDg c.toNat))=false:=by simp [hi0]
    have hi1:((i:Int)=0)=True:=by simp [hi0]
    have hi2:(i=0)=True:=by simp [hi0]
    rw [e,Bool.false_and]
    clear hL e hi0
    rcases hu with hu|⟨hu,hu2⟩
    ·repeat (any_goals first|simp -dsimp (maxSteps:=4000000) (maxDischargeDepth:=8) -implicitDefEqProofs [*,-Int.not_le,-Int.not_lt,amLt]|with_reducible (first|apply cB|apply iB)<;>intro _|intro _)
    ·repeat (any_goals first|simp -dsimp (maxSteps:=4000000) (maxDischargeDepth:=8) -implicitDefEqProofs [*,-Int.not_le,-Int.not_lt,amLt]|with_reducible (first|apply cB|apply iB)<;>intro _|intro _)
   ·have hi1:¬ (i:Int)=0:=by omega
    cases hd:isDg c.toNat with
    | true =>
     replace hd:48≤c.toNat∧c.toNat≤57:=by simpa [isDg] using hd
     have d1:(48:Int)≤c.toNat:=by omega
     have d2:(c.toNat:Int)≤57:=by omega
     have e:(false || (decide (i≠0) && true))=true:=by simp [hi0]
     rw [e,Bool.true_and]
     clear hL e hd
     rcases hu with hu|⟨hu,hu2⟩
     ·repeat (any_goals first|simp -dsimp (maxSteps:=4000000) (maxDischargeDepth:=8) -implicitDefEqProofs [*,-Int.not_le,-Int.not_lt,amLt]|with_reducible (first|apply cB|apply iB)<;>intro _|intro _)
     ·repeat (any_goals first|simp -dsimp (maxSteps:=4000000) (maxDischargeDepth:=8) -implicitDefEqProofs [*,-Int.not_le,-Int.not_lt,amLt]|with_reducible (first|apply cB|apply iB)<;>intro _|intro _)
    | false =>
     replace hd:¬ (48≤c.toNat∧c.toNat≤57):=by simpa [isDg] using hd
     have d1:¬ (48:Int)≤c.toNat∨((48:Int)≤c.toNat∧¬ (c.toNat:Int)≤57):=by omega
     have e:(false || (decide (i≠0) && false))=false:=by simp
     rw [e,Bool.false_and]
     clear hL e hd
     rcases hu with hu|⟨hu,hu2⟩<;>rcases d1 with d1|⟨d1,d2⟩
     ·repeat (any_goals first|simp -dsimp (maxSteps:=4000000) (maxDischargeDepth:=8) -implicitDefEqProofs [*,-Int.not_le,-Int.not_lt,amLt]|with_reducible (first|apply cB|apply iB)<;>intro _|intro _)
     ·repeat (any_goals first|simp -dsimp (maxSteps:=4000000) (maxDischargeDepth:=8) -implicitDefEqProofs [*,-Int.not_le,-Int.not_lt,amLt]|with_reducible (first|apply cB|apply iB)<;>intro _|intro _)
     ·repeat (any_goals first|simp -dsimp (maxSteps:=4000000) (maxDischargeDepth:=8) -implicitDefEqProofs [*,-Int.not_le,-Int.not_lt,amLt]|with_reducible (first|apply cB|apply iB)<;>intro _|intro _)
     ·repeat (any_goals first|simp -dsimp (maxSteps:=4000000) (maxDischargeDepth:=8) -implicitDefEqProofs [*,-Int.not_le,-Int.not_lt,amLt]|with_reducible (first|apply cB|apply iB)<;>intro _|intro _)
theorem letters_ok (h:Heap) (s:List UInt8) (hs:s.length≤16777216):Ccall tab 120 [.str s] h=some (.bool (wordS s),h):=by
 have lp:=letters_loop s hs [] s 0 rfl (by omega)
 simp only [Int.natCast_zero] at lp
 rw [word_from]
 refine Ccall_own rfl rfl rfl rfl ?_
 by_cases h0:s=[]
 ·have e:(decide (s≠[]) && decide (s.length≤63) && okFrom 0 s)=false:=by simp [h0]
  rw [e]
  clear hs lp e
  repeat (any_goals first|simp -dsimp (maxSteps:=4000000) (maxDischargeDepth:=8) -implicitDefEqProofs [*,-Int.not_le,-Int.not_lt,amLt]|with_reducible (first|apply cB|apply iB)<;>intro _|intro _)
 ·by_cases h63:s.length≤63
  ·have h1:(s.length:Int)≤63:=by omega
   have e:(decide (s≠[]) && decide (s.length≤63) && okFrom 0 s)=okFrom 0 s:=by simp [h0,h63]
   rw [e]
   clear hs e h63
   cases q:okFrom 0 s
   ·rw [q] at lp
    repeat (any_goals first|simp -dsimp (maxSteps:=4000000) (maxDischargeDepth:=8) -implicitDefEqProofs [*,-Int.not_le,-Int.not_lt,amLt]|with_reducible (first|apply cB|apply iB)<;>intro _|intro _)
   ·rw [q] at lp
    repeat (any_goals first|simp -dsimp (maxSteps:=4000000) (maxDischargeDepth:=8) -implicitDefEqProofs [*,-Int.not_le,-Int.not_lt,amLt]|with_reducible (first|apply cB|apply iB)<;>intro _|intro _)
  ·have h1:¬ (s.length:Int)≤63:=by omega
   have e:(decide (s≠[]) && decide (s.length≤63) && okFrom 0 s)=false:=by simp [h63]
   rw [e]
   clear hs e h63 lp
   repeat (any_goals first|simp -dsimp (maxSteps:=4000000) (maxDischargeDepth:=8) -implicitDefEqProofs [*,-Int.not_le,-Int.not_lt,amLt]|with_reducible (first|apply cB|apply iB)<;>intro _|intro _)
def chasPre (p s:List UInt8):Bool:=decide (s.take p.length=p)
theorem cpre_len {p s:List UInt8} (h:chasPre p s=true):p.length≤s.length:=by
 have h1:s.take p.length=p:=by simpa [chasPre] using h
 have:=congrArg List.length h1
 simp only [List.length_take] at this
 omega
theorem cprefix_ok (h:Heap) (s p:List UInt8) (hs:s.length≤16777216):Ccall tab 150 [.str s,.str p] h=some (.bool (chasPre p s),h):=by
 refine Ccall_own rfl rfl rfl rfl ?_
 by_cases q:p.length≤s.length
 ·have q1:(p.length:Int)≤s.length:=by omega
  clear hs
  repeat (any_goals first|simp -dsimp (maxSteps:=4000000) (maxDischargeDepth:=8) -implicitDefEqProofs [*,-Int.not_le,-Int.not_lt,amLt,chasPre,obound_some,obound_none,abound_int]|with_reducible (first|apply cB|apply iB)<;>intro _|intro _)
 ·have q1:¬ (p.length:Int)≤s.length:=by omega
  have q2:chasPre p s=false:=by cases q3:chasPre p s with|false=>rfl|true=>exact absurd (cpre_len q3) q
  clear hs
  repeat (any_goals first|simp -dsimp (maxSteps:=4000000) (maxDischargeDepth:=8) -implicitDefEqProofs [*,-Int.not_le,-Int.not_lt,amLt,obound_some,obound_none,abound_int]|with_reducible (first|apply cB|apply iB)<;>intro _|intro _)
theorem cut_ok (h:Heap) (s:List UInt8) (hs:s.length≤16777216):Ccall tab 135 [.str s,.str [35]] h=some (if s.head?=some 35 then .tup [.str (s.drop 1),.bool true] else .tup [.str s,.bool false],h):=by
 have hp:=fun h=>cprefix_ok h s [35] hs
 have e:chasPre [35] s=decide (s.head?=some 35):=by
  cases s with
  | nil=>rfl
  | cons b t=>simp [chasPre]
 rw [e] at hp
 have h82:∀ h,Ccall tab 141 [.str s,.str [35]] h=some (if s.head?=some 35 then .tup [.str (s.drop 1),.bool true] else .tup [.str s,.bool false],h):=by
  intro h
  refine Ccall_own rfl rfl rfl rfl ?_
  by_cases q:s.head?=some 35
  ·rw [if_pos q]
   have hl:0<s.length:=by cases s with|nil=>simp at q|cons b t=>simp
   have hl2:(1:Int)≤s.length:=by omega
   have hd:decide (s.head?=some 35)=true:=by simpa using q
   rw [hd] at hp
   clear hs e q hd hl
   repeat (any_goals first|simp -dsimp (maxSteps:=4000000) (maxDischargeDepth:=8) -implicitDefEqProofs [*,-Int.not_le,-Int.not_lt,amLt,obound_some,obound_none,abound_int]|with_reducible (first|apply cB|apply iB)<;>intro _|intro _)
  ·rw [if_neg q]
   have hd:decide (s.head?=some 35)=false:=by simpa using q
   rw [hd] at hp
   clear hs e q hd
   repeat (any_goals first|simp -dsimp (maxSteps:=4000000) (maxDischargeDepth:=8) -implicitDefEqProofs [*,-Int.not_le,-Int.not_lt,amLt,obound_some,obound_none,abound_int]|with_reducible (first|apply cB|apply iB)<;>intro _|intro _)
 refine Ccall_own rfl rfl rfl rfl ?_
 clear hs e hp
 by_cases q:s.head?=some 35
 ·simp only [if_pos q] at h82 ⊢
  clear q
  repeat (any_goals first|simp -dsimp (maxSteps:=4000000) (maxDischargeDepth:=8) -implicitDefEqProofs [*,-Int.not_le,-Int.not_lt,amLt]|with_reducible (first|apply cB|apply iB)<;>intro _|intro _)
 ·simp only [if_neg q] at h82 ⊢
  clear q
  repeat (any_goals first|simp -dsimp (maxSteps:=4000000) (maxDischargeDepth:=8) -implicitDefEqProofs [*,-Int.not_le,-Int.not_lt,amLt]|with_reducible (first|apply cB|apply iB)<;>intro _|intro _)
def digT:List UInt8:=[48,49,50,51,52,53,54,55,56,57]
theorem trim_dig (h:Heap) (s:List UInt8) (hs:s.length≤16777216):Ccall tab 136 [.str s,.str [48,49,50,51,52,53,54,55,56,57]] h=some (.str (Go.Lib.trimS s digT),h):=by
 refine Ccall_ext (F:=libTrim) rfl rfl rfl rfl ?_
 simp only [strip.stripL,strip,libTrim]
 rw [if_pos ⟨by omega,by decide,by decide⟩]<;>rfl
theorem long_ok (h:Heap) (n:Int):Ccall tab 117 [.int .i64 n] h=some (.bool (longS n),h):=by
 unfold longS
 refine Ccall_own rfl rfl rfl rfl ?_
 by_cases h1:n = -1
 ·subst h1
  repeat (any_goals first|simp -dsimp (maxSteps:=4000000) (maxDischargeDepth:=8) -implicitDefEqProofs [*,-Int.not_le,-Int.not_lt,amLt]|with_reducible (first|apply cB|apply iB)<;>intro _|intro _)
 ·by_cases h2:(1:Int)≤n
  ·by_cases h3:n≤16384
   ·repeat (any_goals first|simp -dsimp (maxSteps:=4000000) (maxDischargeDepth:=8) -implicitDefEqProofs [*,-Int.not_le,-Int.not_lt,amLt]|with_reducible (first|apply cB|apply iB)<;>intro _|intro _)
   ·repeat (any_goals first|simp -dsimp (maxSteps:=4000000) (maxDischargeDepth:=8) -implicitDefEqProofs [*,-Int.not_le,-Int.not_lt,amLt]|with_reducible (first|apply cB|apply iB)<;>intro _|intro _)
  ·repeat (any_goals first|simp -dsimp (maxSteps:=4000000) (maxDischargeDepth:=8) -implicitDefEqProofs [*,-Int.not_le,-Int.not_lt,amLt]|with_reducible (first|apply cB|apply iB)<;>intro _|intro _)
theorem width_ok (h:Heap) (k:Int):Ccall tab 109 [.int .i64 k] h=some (.int .i64 (widthS k),h):=by
 refine Ccall_own rfl rfl rfl rfl ?_
 by_cases q:2≤k∧k≤13
 ·have:k=2∨k=3∨k=4∨k=5∨k=6∨k=7∨k=8∨k=9∨k=10∨k=11∨k=12∨k=13:=by omega
  rcases this with rfl|rfl|rfl|rfl|rfl|rfl|rfl|rfl|rfl|rfl|rfl|rfl<;>clear q
  ·repeat (any_goals first|simp -dsimp (maxSteps:=4000000) (maxDischargeDepth:=8) -implicitDefEqProofs [*,-Int.not_le,-Int.not_lt,amLt,widthS]|with_reducible (first|apply cB|apply iB)<;>intro _|intro _)
  ·repeat (any_goals first|simp -dsimp (maxSteps:=4000000) (maxDischargeDepth:=8) -implicitDefEqProofs [*,-Int.not_le,-Int.not_lt,amLt,widthS]|with_reducible (first|apply cB|apply iB)<;>intro _|intro _)
  ·repeat (any_goals first|simp -dsimp (maxSteps:=4000000) (maxDischargeDepth:=8) -implicitDefEqProofs [*,-Int.not_le,-Int.not_lt,amLt,widthS]|with_reducible (first|apply cB|apply iB)<;>intro _|intro _)
  ·repeat (any_goals first|simp -dsimp (maxSteps:=4000000) (maxDischargeDepth:=8) -implicitDefEqProofs [*,-Int.not_le,-Int.not_lt,amLt,widthS]|with_reducible (first|apply cB|apply iB)<;>intro _|intro _)
  ·repeat (any_goals first|simp -dsimp (maxSteps:=4000000) (maxDischargeDepth:=8) -implicitDefEqProofs [*,-Int.not_le,-Int.not_lt,amLt,widthS]|with_reducible (first|apply cB|apply iB)<;>intro _|intro _)
  ·repeat (any_goals first|simp -dsimp (maxSteps:=4000000) (maxDischargeDepth:=8) -implicitDefEqProofs [*,-Int.not_le,-Int.not_lt,amLt,widthS]|with_reducible (first|apply cB|apply iB)<;>intro _|intro _)
  ·repeat (any_goals first|simp -dsimp (maxSteps:=4000000) (maxDischargeDepth:=8) -implicitDefEqProofs [*,-Int.not_le,-Int.not_lt,amLt,widthS]|with_reducible (first|apply cB|apply iB)<;>intro _|intro _)
  ·repeat (any_goals first|simp -dsimp (maxSteps:=4000000) (maxDischargeDepth:=8) -implicitDefEqProofs [*,-Int.not_le,-Int.not_lt,amLt,widthS]|with_reducible (first|apply cB|apply iB)<;>intro _|intro _)
  ·repeat (any_goals first|simp -dsimp (maxSteps:=4000000) (maxDischargeDepth:=8) -implicitDefEqProofs [*,-Int.not_le,-Int.not_lt,amLt,widthS]|with_reducible (first|apply cB|apply iB)<;>intro _|intro _)
  ·repeat (any_goals first|simp -dsimp (maxSteps:=4000000) (maxDischargeDepth:=8) -implicitDefEqProofs [*,-Int.not_le,-Int.not_lt,amLt,widthS]|with_reducible (first|apply cB|apply iB)<;>intro _|intro _)
  ·repeat (any_goals first|simp -dsimp (maxSteps:=4000000) (maxDischargeDepth:=8) -implicitDefEqProofs [*,-Int.not_le,-Int.not_lt,amLt,widthS]|with_reducible (first|apply cB|apply iB)<;>intro _|intro _)
  ·repeat (any_goals first|simp -dsimp (maxSteps:=4000000) (maxDischargeDepth:=8) -implicitDefEqProofs [*,-Int.not_le,-Int.not_lt,amLt,widthS]|with_reducible (first|apply cB|apply iB)<;>intro _|intro _)
 ·have e:widthS k=0:=by unfold widthS;rw [if_neg (by omega),if_neg (by omega),if_neg (by omega)]
  rw [e]
  have n2:¬ k=2:=by omega
  have n3:¬ k=3:=by omega
  have n4:¬ k=4:=by omega
  have n5:¬ k=5:=by omega
  have n6:¬ k=6:=by omega
  have n7:¬ k=7:=by omega
  have n8:¬ k=8:=by omega
  have n9:¬ k=9:=by omega
  have n10:¬ k=10:=by omega
  have n11:¬ k=11:=by omega
  have n12:¬ k=12:=by omega
  have n13:¬ k=13:=by omega
  clear q e
  repeat (any_goals first|simp -dsimp (maxSteps:=4000000) (maxDischargeDepth:=8) -implicitDefEqProofs [*,-Int.not_le,-Int.not_lt,amLt]|with_reducible (first|apply cB|apply iB)<;>intro _|intro _)
theorem drop_none {p:UInt8→Bool}:∀ (l:List UInt8),(∀ x ∈ l.dropWhile p,p x=true)→l.dropWhile p=[]:=by
 intro l
 induction l with
 | nil=>intro _;rfl
 | cons a t ih =>
  intro h
  by_cases q:p a=true
  ·rw [List.dropWhile_cons_of_pos q] at h ⊢;exact ih h
  ·rw [List.dropWhile_cons_of_neg q] at h
   exact absurd (h a (by simp)) q
theorem dw_nil {p:UInt8→Bool}:∀ (l:List UInt8),l.dropWhile p=[]↔∀ x ∈ l,p x=true:=by
 intro l
 induction l with
 | nil=>simp
 | cons a t ih =>
  by_cases q:p a=true
  ·rw [List.dropWhile_cons_of_pos q,ih];simp [q]
  ·rw [List.dropWhile_cons_of_neg q];simp [q]
theorem isDg_mem (b:UInt8):digT.contains b=isDg b.toNat:=by
 have h:=cbyte_all (p:=fun n=>digT.contains (UInt8.ofNat n) == isDg n) (by decide +kernel) b
 simpa using h
theorem trim_nil (s:List UInt8):decide (Go.Lib.trimS s digT=[])=s.all fun c=>isDg c.toNat:=by
 have key:Go.Lib.trimS s digT=[]↔∀ x ∈ s,digT.contains x=true:=by
  unfold Go.Lib.trimS Go.Lib.trimLeftS Go.Lib.trimRightS
  rw [dw_nil]
  constructor
  ·intro h
   have h1:=drop_none s.reverse (p:=fun x=>digT.contains x) fun x hx=>h x (by simpa using hx)
   rw [dw_nil] at h1
   exact fun x hx=>h1 x (by simpa using hx)
  ·intro h x hx
   refine h x ?_
   have:=(List.dropWhile_suffix (fun x=>digT.contains x) (l:=s.reverse)).subset (List.mem_reverse.1 hx)
   simpa using this
 by_cases q:Go.Lib.trimS s digT=[]
 ·have h:=key.1 q
  have:(s.all fun c=>isDg c.toNat)=true:=List.all_eq_true.2 fun x hx=>by rw [← isDg_mem];exact h x hx
  rw [this];simpa using q
 ·have:(s.all fun c=>isDg c.toNat)=false:=by
   cases e:s.all fun c=>isDg c.toNat with
   | false=>rfl
   | true=>exact absurd (key.2 fun x hx=>by rw [isDg_mem];exact List.all_eq_true.1 e x hx) q
  rw [this];simpa using q
theorem tag_ok (h:Heap) (s:List UInt8) (hs:s.length≤1048576):Ccall tab 118 [.str s] h=some (.bool (tagS s),h):=by
 have hc:=fun h=>cut_ok h s (by omega)
 refine Ccall_own rfl rfl rfl rfl ?_
 cases s with
 | nil =>
  have hl:=fun h=>letters_ok h [] (by simp)
  simp only [List.head?_nil,reduceCtorEq,if_false] at hc
  clear hs
  repeat (any_goals first|simp -dsimp (maxSteps:=4000000) (maxDischargeDepth:=8) -implicitDefEqProofs [*,-Int.not_le,-Int.not_lt,amLt,tagS,wordS]|with_reducible (first|apply cB|apply iB)<;>intro _|intro _)
 | cons b t =>
  by_cases hb:b=35
  ·subst hb
   have ht:=fun h=>trim_dig h t (by simp only [List.length_cons] at hs;omega)
   have htn:=trim_nil t
   simp only [List.head?_cons,if_true,List.drop_succ_cons,List.drop_zero] at hc
   have e:tagS (35 :: t)=(decide (t≠[]) && decide (t.length≤9) && t.all (fun c=>isDg c.toNat)):=by simp [tagS]
   rw [e,← htn]
   clear e htn hs
   by_cases h0:t=[]
   ·subst h0
    repeat (any_goals first|simp -dsimp (maxSteps:=4000000) (maxDischargeDepth:=8) -implicitDefEqProofs [*,-Int.not_le,-Int.not_lt,amLt]|with_reducible (first|apply cB|apply iB)<;>intro _|intro _)
   ·by_cases h9:t.length≤9
    ·have h9':(t.length:Int)≤9:=by omega
     repeat (any_goals first|simp -dsimp (maxSteps:=4000000) (maxDischargeDepth:=8) -implicitDefEqProofs [*,-Int.not_le,-Int.not_lt,amLt]|with_reducible (first|apply cB|apply iB)<;>intro _|intro _)
    ·have h9':¬ (t.length:Int)≤9:=by omega
     repeat (any_goals first|simp -dsimp (maxSteps:=4000000) (maxDischargeDepth:=8) -implicitDefEqProofs [*,-Int.not_le,-Int.not_lt,amLt]|with_reducible (first|apply cB|apply iB)<;>intro _|intro _)
  ·have hl:=fun h=>letters_ok h (b :: t) (by omega)
   simp only [List.head?_cons,Option.some.injEq,if_neg hb] at hc
   have e:tagS (b :: t)=wordS (b :: t):=by simp [tagS,hb]
   rw [e]
   generalize b :: t=s at *
   clear hs e hb
   repeat (any_goals first|simp -dsimp (maxSteps:=4000000) (maxDischargeDepth:=8) -implicitDefEqProofs [*,-Int.not_le,-Int.not_lt,amLt]|with_reducible (first|apply cB|apply iB)<;>intro _|intro _)
def memRow (m:Mem):List AV:=[.str m.1,.int .i64 m.2.1,.int .i64 m.2.2]
def memRows (l:List Mem):List (List AV):=l.map memRow
def trow (r:TR):List AV:=[.int .i64 r.kind,.int .i64 r.elem,.int .i64 r.len,.str r.tag,.is (memRows r.mem) r.cap,.bool r.done]
def cellsT (rows:List TR):List AV:=(rows.map trow).flatten
theorem cells_len (rows:List TR):(cellsT rows).length=rows.length*6:=by
 induction rows with
 | nil=>rfl
 | cons r t ih =>
  have:cellsT (r :: t)=trow r ++ cellsT t:=rfl
  rw [this,List.length_append,ih,List.length_cons]
  show 6+_=_
  omega
theorem cells_drop:∀ (rows:List TR) (i:Nat),(cellsT rows).drop (i*6)=cellsT (rows.drop i):=by
 intro rows
 induction rows with
 | nil=>intro i;simp [cellsT]
 | cons r t ih =>
  intro i
  cases i with
  | zero=>simp
  | succ i =>
   have:cellsT (r :: t)=trow r ++ cellsT t:=rfl
   rw [this,show (i+1)*6=6+i*6 by omega,← List.drop_drop]
   have h6:(trow r ++ cellsT t).drop 6=cellsT t:=by
    have:(trow r).length=6:=rfl
    rw [← this,List.drop_left]
   rw [h6,ih i,List.drop_succ_cons]
theorem cells_row {rows:List TR} {i:Nat} {r:TR} (h:rows[i]?=some r):((cellsT rows).drop (i*6)).take 6=trow r:=by
 obtain ⟨h1,h2⟩:=List.getElem?_eq_some_iff.1 h
 rw [cells_drop,List.drop_eq_getElem_cons h1,h2]
 rfl
theorem cells_at {rows:List TR} {i:Nat} {r:TR} (h:rows[i]?=some r) (k:Nat) (hk:k<6):(cellsT rows)[i*6+k]?=(trow r)[k]?:=by
 have:=congrArg (·[k]?) (cells_row h)
 simp only [List.getElem?_take,List.getElem?_drop,hk,if_true] at this
 exact this
section
variable {H:Heap} {T R M cap:Nat} {ex:Bool} {rows:List TR}
theorem aeq_mp (a b:Nat):aeq .ptr (.mp a b) .nilp=some false:=rfl
theorem aeq_mm (a:Nat):aeq .map (.mm a) .nilm=some false:=rfl
theorem alive_ok {v:AV} (hT:H[T]?=some (.cells [v,.mm M])):Ccall tab 90 [.mp T 0] H=some (.bool true,H):=by
 refine Ccall_over rfl rfl rfl rfl ?_
 repeat (any_goals first|simp -dsimp (maxSteps:=4000000) (maxDischargeDepth:=8) -implicitDefEqProofs [*,-Int.not_le,-Int.not_lt,amLt,aeq_mp,aeq_mm]|with_reducible (first|apply cB|apply iB)<;>intro _|intro _)
theorem has_ok (hT:H[T]?=some (.cells [.ms R 0 rows.length 6 cap ex,.mm M])) (id:Int):Ccall tab 91 [.mp T 0,.int .i64 id] H=some (.bool (hasS rows id),H):=by
 have ha:=alive_ok hT
 have e:hasS rows id=(decide (0≤id) && decide (id<rows.length)):=by
  unfold hasS getT
  by_cases h0:0≤id
  ·rw [if_pos h0]
   by_cases h1:id<rows.length
   ·rw [List.getElem?_eq_getElem (by omega)];simp [h0,h1]
   ·rw [List.getElem?_eq_none (by omega)];simp [h1]
  ·rw [if_neg h0];simp [h0]
 rw [e]
 refine Ccall_over rfl rfl rfl rfl ?_
 clear e
 by_cases h0:0≤id
 ·repeat (any_goals first|simp -dsimp (maxSteps:=4000000) (maxDischargeDepth:=8) -implicitDefEqProofs [*,-Int.not_le,-Int.not_lt,amLt]|with_reducible (first|apply cB|apply iB)<;>intro _|intro _)
 ·repeat (any_goals first|simp -dsimp (maxSteps:=4000000) (maxDischargeDepth:=8) -implicitDefEqProofs [*,-Int.not_le,-Int.not_lt,amLt]|with_reducible (first|apply cB|apply iB)<;>intro _|intro _)
theorem kind_ok (hT:H[T]?=some (.cells [.ms R 0 rows.length 6 cap ex,.mm M])) (hR:H[R]?=some (.cells (cellsT rows))) (id:Int):Ccall tab 100 [.mp T 0,.int .i64 id] H=some (.int .i64 (kindS rows id),H):=by
 have hh:=has_ok hT id
 unfold kindS
 unfold hasS at hh
 refine Ccall_over rfl rfl rfl rfl ?_
 cases hg:getT rows id with
 | none =>
  rw [hg] at hh
  clear hg
  repeat (any_goals first|simp -dsimp (maxSteps:=4000000) (maxDischargeDepth:=8) -implicitDefEqProofs [*,-Int.not_le,-Int.not_lt,amLt]|with_reducible (first|apply cB|apply iB)<;>intro _|intro _)
 | some r =>
  rw [hg] at hh
  unfold getT at hg
  split at hg
  ·rename_i h0
   have hlt:=(List.getElem?_eq_some_iff.1 hg).1
   have hc:=cells_at hg 0 (by decide)
   simp only [Nat.add_zero] at hc
   rw [show (trow r)[0]?=some (.int .i64 r.kind) from rfl] at hc
   have h1:id<rows.length:=by omega
   clear hg hlt
   repeat (any_goals first|simp -dsimp (maxSteps:=4000000) (maxDischargeDepth:=8) -implicitDefEqProofs [*,-Int.not_le,-Int.not_lt,amLt]|with_reducible (first|apply cB|apply iB)<;>intro _|intro _)
  ·cases hg
theorem whole_ok (hT:H[T]?=some (.cells [.ms R 0 rows.length 6 cap ex,.mm M])) (hR:H[R]?=some (.cells (cellsT rows))) (id:Int):Ccall tab 86 [.mp T 0,.int .i64 id] H=some (.bool (wholeS rows id),H):=by
 have hh:=kind_ok hT hR id
 unfold kindS at hh
 unfold wholeS
 refine Ccall_over rfl rfl rfl rfl ?_
 cases hg:getT rows id with
 | none =>
  rw [hg] at hh
  clear hg
  repeat (any_goals first|simp -dsimp (maxSteps:=4000000) (maxDischargeDepth:=8) -implicitDefEqProofs [*,-Int.not_le,-Int.not_lt,amLt]|with_reducible (first|apply cB|apply iB)<;>intro _|intro _)
 | some r =>
  rw [hg] at hh
  unfold getT at hg
  split at hg
  ·rename_i h0
   have hlt:=(List.getElem?_eq_some_iff.1 hg).1
   have h2:=cells_at hg 2 (by decide)
   have h5:=cells_at hg 5 (by decide)
   rw [show (trow r)[2]?=some (.int .i64 r.len) from rfl] at h2
   rw [show (trow r)[5]?=some (.bool r.done) from rfl] at h5
   have h1:id<rows.length:=by omega
   dsimp only at hh ⊢
   unfold wholeR
   clear hg hlt
   by_cases k0:r.kind=0
   ·repeat (any_goals first|simp -dsimp (maxSteps:=4000000) (maxDischargeDepth:=8) -implicitDefEqProofs [*,-Int.not_le,-Int.not_lt,amLt]|with_reducible (first|apply cB|apply iB)<;>intro _|intro _)
   ·by_cases k1:r.kind=1
    ·repeat (any_goals first|simp -dsimp (maxSteps:=4000000) (maxDischargeDepth:=8) -implicitDefEqProofs [*,-Int.not_le,-Int.not_lt,amLt]|with_reducible (first|apply cB|apply iB)<;>intro _|intro _)
    ·by_cases k14:r.kind=14
     ·repeat (any_goals first|simp -dsimp (maxSteps:=4000000) (maxDischargeDepth:=8) -implicitDefEqProofs [*,-Int.not_le,-Int.not_lt,amLt]|with_reducible (first|apply cB|apply iB)<;>intro _|intro _)
     ·by_cases k15:r.kind=15
      ·repeat (any_goals first|simp -dsimp (maxSteps:=4000000) (maxDischargeDepth:=8) -implicitDefEqProofs [*,-Int.not_le,-Int.not_lt,amLt]|with_reducible (first|apply cB|apply iB)<;>intro _|intro _)
      ·by_cases k16:r.kind=16
       ·repeat (any_goals first|simp -dsimp (maxSteps:=4000000) (maxDischargeDepth:=8) -implicitDefEqProofs [*,-Int.not_le,-Int.not_lt,amLt]|with_reducible (first|apply cB|apply iB)<;>intro _|intro _)
       ·repeat (any_goals first|simp -dsimp (maxSteps:=4000000) (maxDischargeDepth:=8) -implicitDefEqProofs [*,-Int.not_le,-Int.not_lt,amLt]|with_reducible (first|apply cB|apply iB)<;>intro _|intro _)
  ·cases hg
theorem wide_ok (hT:H[T]?=some (.cells [.ms R 0 rows.length 6 cap ex,.mm M])) (hR:H[R]?=some (.cells (cellsT rows))) (id bits:Int):Ccall tab 119 [.mp T 0,.int .i64 id,.int .i64 bits] H=some (.bool (wideK (kindS rows id) bits),H):=by
 have hh:=kind_ok hT hR id
 have hw:=width_ok H (kindS rows id)
 have wr:IntKind.i64.wrap (8*widthS (kindS rows id))=8*widthS (kindS rows id):=by
  have:0≤widthS (kindS rows id)∧widthS (kindS rows id)≤4:=by
   unfold widthS;split;omega;split;omega;split;omega;omega
  exact IntWalk.i64_in _ (by omega)
 unfold wideK
 generalize kindS rows id=k at *
 generalize widthS k=w at *
 refine Ccall_over rfl rfl rfl rfl ?_
 by_cases k1:k<2
 ·repeat (any_goals first|simp -dsimp (maxSteps:=4000000) (maxDischargeDepth:=8) -implicitDefEqProofs [*,-Int.not_le,-Int.not_lt,amLt]|with_reducible (first|apply cB|apply iB)<;>intro _|intro _)
 ·by_cases k2:12<k
  ·repeat (any_goals first|simp -dsimp (maxSteps:=4000000) (maxDischargeDepth:=8) -implicitDefEqProofs [*,-Int.not_le,-Int.not_lt,amLt]|with_reducible (first|apply cB|apply iB)<;>intro _|intro _)
  ·by_cases b0:bits<0
   ·repeat (any_goals first|simp -dsimp (maxSteps:=4000000) (maxDischargeDepth:=8) -implicitDefEqProofs [*,-Int.not_le,-Int.not_lt,amLt]|with_reducible (first|apply cB|apply iB)<;>intro _|intro _)
   ·rw [if_neg (by omega)]
    by_cases k3:k=2
    ·subst k3
     repeat (any_goals first|simp -dsimp (maxSteps:=4000000) (maxDischargeDepth:=8) -implicitDefEqProofs [*,-Int.not_le,-Int.not_lt,amLt]|with_reducible (first|apply cB|apply iB)<;>intro _|intro _)
    ·repeat (any_goals first|simp -dsimp (maxSteps:=4000000) (maxDischargeDepth:=8) -implicitDefEqProofs [*,-Int.not_le,-Int.not_lt,amLt]|with_reducible (first|apply cB|apply iB)<;>intro _|intro _)
end
theorem memRows_ok (l:List Mem):∀ r ∈ memRows l,RowOK 3 r:=by
 intro r hr
 obtain ⟨y,_,rfl⟩:=List.mem_map.1 hr
 exact ⟨rfl,rfl,rfl,rfl⟩
theorem memRows_len (l:List Mem):(memRows l).length=l.length:=by simp [memRows]
theorem roomy_sm {n b:Nat} (h:n≤4000000000) (hb:b≤10000):roomy n b=true:=by
 have:n*b≤4000000000*10000:=Nat.mul_le_mul h hb
 simp only [roomy,decide_eq_true_eq]
 omega
theorem aeq_nil:aeq .slice (.is [] .nil) (.is [] .nil)=some true:=rfl
theorem aeq_nn:aeq .slice (.is [] .nn) (.is [] .nil)=some false:=rfl
theorem clone_ok (h:Heap) (l:List Mem) (cap:Cap) (hl:l.length≤16777216):Ccall tab 106 [.is (memRows l) cap] h=some (.is (memRows l) .no,h):=by
 refine Ccall_clone rfl rfl rfl (fun hne=>?_) (fun he=>⟨by rw [he],?_,?_⟩)
 ·have hap:=fun slot cap c2 h=>appF_rows slot 3 32 [] cap c2 h (memRows_ok l) hne
  have hroom:roomy (([]:List (List AV)).length+(memRows l).length) 32=true:=by rw [memRows_len];exact roomy_sm (by simp;omega) (by decide)
  have heq:aeq .slice (.is (memRows l) .no) (.is [] .nil)=some false:=by
   obtain ⟨a,r,e⟩:=List.exists_cons_of_ne_nil hne
   rw [e];rfl
  have sp:spend Cap.full [Blk.free]=[Blk.free]:=rfl
  have rk:roomOK Cap.full 3 [] [Blk.free]=true:=rfl
  simp only [List.nil_append,List.length_nil,Nat.zero_add] at hap hroom
  generalize memRows l=R at *
  clear hl hne
  repeat (any_goals first|simp -dsimp (maxSteps:=4000000) (maxDischargeDepth:=8) -implicitDefEqProofs [*,-Int.not_le,-Int.not_lt,amLt]|with_reducible (first|apply cB|apply iB)<;>intro _|intro _)
 ·refine ⟨.no,?_⟩
  clear hl he
  repeat (any_goals first|simp -dsimp (maxSteps:=4000000) (maxDischargeDepth:=8) -implicitDefEqProofs [*,-Int.not_le,-Int.not_lt,amLt,aeq_nil]|with_reducible (first|apply cB|apply iB)<;>intro _|intro _)
 ·refine ⟨.no,?_⟩
  clear hl he
  repeat (any_goals first|simp -dsimp (maxSteps:=4000000) (maxDischargeDepth:=8) -implicitDefEqProofs [*,-Int.not_le,-Int.not_lt,amLt,aeq_nn]|with_reducible (first|apply cB|apply iB)<;>intro _|intro _)
theorem twin_ok (h:Heap) (r:TR) (hl:r.mem.length≤16777216):Ccall tab 84 [.agg (trow r)] h=some (.agg (trow { r with cap:= .no }),h):=by
 have hc:=fun h cap=>clone_ok h r.mem cap hl
 unfold trow
 refine Ccall_own rfl rfl rfl rfl ?_
 generalize memRows r.mem=R at *
 clear hl
 repeat (any_goals first|simp -dsimp (maxSteps:=4000000) (maxDischargeDepth:=8) -implicitDefEqProofs [*,-Int.not_le,-Int.not_lt,amLt]|with_reducible (first|apply cB|apply iB)<;>intro _|intro _)
structure TabAt (H:Heap) (T R M cap:Nat) (ex:Bool) (rows:List TR):Prop where
 t:∀ x,(H ++ x)[T]?=some (.cells [.ms R 0 rows.length 6 cap ex,.mm M])
 r:∀ x,(H ++ x)[R]?=some (.cells (cellsT rows))
section
variable {H:Heap} {T R M cap:Nat} {ex:Bool} {rows:List TR}
theorem TabAt.app (h:TabAt H T R M cap ex rows) (x:Heap):TabAt (H ++ x) T R M cap ex rows:=⟨fun y=>by rw [List.append_assoc];exact h.t _,fun y=>by rw [List.append_assoc];exact h.r _⟩
theorem TabAt.t0 (h:TabAt H T R M cap ex rows):H[T]?=some (.cells [.ms R 0 rows.length 6 cap ex,.mm M]):=by simpa using h.t []
theorem TabAt.r0 (h:TabAt H T R M cap ex rows):H[R]?=some (.cells (cellsT rows)):=by simpa using h.r []
def wantC (r:TR):List AV :=
 if r.kind=13 then [.int .i64 r.kind,.int .i64 r.elem,.int .i64 0,.str [],.is [] .nil,.bool false]
 else if r.kind=14 then [.int .i64 r.kind,.int .i64 r.elem,.int .i64 r.len,.str [],.is [] .nil,.bool false]
 else if r.kind=12 then [.int .i64 r.kind,.int .i64 0,.int .i64 0,.str r.tag,.is [] .nil,.bool false]
 else if r.kind=15∨r.kind=16 then [.int .i64 r.kind,.int .i64 0,.int .i64 0,.str r.tag,.is [] .nil,.bool r.done]
 else [.int .i64 r.kind,.int .i64 0,.int .i64 0,.str [],.is [] .nil,.bool false]
theorem aeq_bools (a b:Bool):aeq .bool (.bool a) (.bool b)=some (a == b):=rfl
theorem r9_told (H:Heap) (x1 x22 x28:AV) (el ln:Int) (k tg mm dn:AV) (Y:Blk):Brun tab 123 (.region true f85r9 [1,5,6,7] 0) (ofL [(1,x1),(5,.mp H.length 0),(6,.mp (H.length+1) 0),(7,.mp (H.length+2) 0),(22,x22),(28,x28)]) (H ++ [.cells [k,.int .i64 el,.int .i64 ln,tg,mm,dn],Y,.cells [k,.int .i64 0,.int .i64 0,.str [],.is [] .nil,.bool false]]) =
  some (.normal,ofL [(1,x1),(5,.mp H.length 0),(6,.mp (H.length+1) 0),(7,.mp (H.length+2) 0)],H ++ [.cells [k,.int .i64 el,.int .i64 ln,tg,mm,dn],Y,.cells [k,.int .i64 el,.int .i64 ln,.str [],.is [] .nil,.bool false]]):=by
 refine Brun_told ?_
 simp [f85r9,asteps,astep,stepRun,aop,HC.run,HC.rds,HC.wrs,HC.ofOpt,Blk.isFree,wanted,put,cellsOf,isSc,splice,cget,drawOK,freeOf,Rec.indep,disj,apart,AOper.looks,AOp.tmps,AO.tmps,pTmps,oTmps,Nat.testBit,ap4,ofL]
theorem r14_told (H:Heap) (x1:AV) (E:List (Nat × AV)) (tg:List UInt8) (dn:Bool) (k el ln mm:AV) (Y:Blk):Brun tab 123 (.region true f85r14 [1,5,6,7] 0) (ofL ((1,x1) :: (5,.mp H.length 0) :: (6,.mp (H.length+1) 0) :: (7,.mp (H.length+2) 0) :: E)) (H ++ [.cells [k,el,ln,.str tg,mm,.bool dn],Y,.cells [k,.int .i64 0,.int .i64 0,.str [],.is [] .nil,.bool false]]) =
  some (.normal,ofL [(1,x1),(5,.mp H.length 0),(6,.mp (H.length+1) 0),(7,.mp (H.length+2) 0)],H ++ [.cells [k,el,ln,.str tg,mm,.bool dn],Y,.cells [k,.int .i64 0,.int .i64 0,.str tg,.is [] .nil,.bool dn]]):=by
 refine Brun_told ?_
 simp [f85r14,asteps,astep,stepRun,aop,HC.run,HC.rds,HC.wrs,HC.ofOpt,Blk.isFree,wanted,put,cellsOf,isSc,splice,cget,drawOK,freeOf,Rec.indep,disj,apart,AOper.looks,AOp.tmps,AO.tmps,pTmps,oTmps,Nat.testBit,ap4,ofL]
theorem aeq_same (a:Bool):aeq .bool (.bool a) (.bool a)=some true:=by cases a<;>rfl
theorem shaped_ok (ht:TabAt H T R M cap ex rows) {i:Nat} {r:TR} (hi:rows[i]?=some r) (htag:r.tag.length≤1048576) :
  Ccall tab 85 [.mp T 0,.int .i64 i] H=some (.bool (shapedR i r),H ++ [.cells (trow r),.cells [.int .i64 r.kind,.int .i64 r.elem,.int .i64 r.len,.str r.tag,.is [] .nil,.bool r.done],.cells (wantC r)]):=by
 have hT:=ht.t
 have hR:=ht.r
 have hT0:=ht.t0
 have hR0:=ht.r0
 have hlt:=(List.getElem?_eq_some_iff.1 hi).1
 have hrow:=cells_row hi
 have hcl:=cells_len rows
 have hle:i*6+6≤(cellsT rows).length:=by omega
 have h1:(i:Int)<rows.length:=by omega
 have htg:=fun h=>tag_ok h r.tag htag
 have hlg:=fun h=>long_ok h r.len
 have hml:=memRows_len r.mem
 unfold trow at hrow
 refine Ccall_over rfl rfl rfl rfl ?_
 unfold trow shapedR wantC
 obtain ⟨kind,elem,len,tag,mem,done,cp⟩:=r
 dsimp only at *
 generalize cellsT rows=cs at *
 clear hi hcl ht htag
 by_cases k13:kind=13
 ·subst k13
  rw [if_pos rfl,if_pos rfl]
  by_cases e1:len=0
  ·by_cases e2:tag=[]
   ·cases done with
    | false =>
     by_cases e4:mem=[]
     ·by_cases e5:0≤elem
      ·by_cases e6:elem<i
       ·subst e4
        repeat (any_goals first|simp -dsimp (maxSteps:=4000000) (maxDischargeDepth:=8) -implicitDefEqProofs [*,-Int.not_le,-Int.not_lt,amLt,ap4,aeq_bools,memRows]|with_reducible (first|apply cB|apply iB)<;>intro _|intro _)
       ·subst e4
        repeat (any_goals first|simp -dsimp (maxSteps:=4000000) (maxDischargeDepth:=8) -implicitDefEqProofs [*,-Int.not_le,-Int.not_lt,amLt,ap4,aeq_bools,memRows]|with_reducible (first|apply cB|apply iB)<;>intro _|intro _)
      ·subst e4
       repeat (any_goals first|simp -dsimp (maxSteps:=4000000) (maxDischargeDepth:=8) -implicitDefEqProofs [*,-Int.not_le,-Int.not_lt,amLt,ap4,aeq_bools,memRows]|with_reducible (first|apply cB|apply iB)<;>intro _|intro _)
     ·have e4':0<mem.length:=List.length_pos_iff.2 e4
      repeat (any_goals first|simp -dsimp (maxSteps:=4000000) (maxDischargeDepth:=8) -implicitDefEqProofs [*,-Int.not_le,-Int.not_lt,amLt,ap4,aeq_bools]|with_reducible (first|apply cB|apply iB)<;>intro _|intro _)
    | true =>
     repeat (any_goals first|simp -dsimp (maxSteps:=4000000) (maxDischargeDepth:=8) -implicitDefEqProofs [*,-Int.not_le,-Int.not_lt,amLt,ap4,aeq_bools]|with_reducible (first|apply cB|apply iB)<;>intro _|intro _)
   ·repeat (any_goals first|simp -dsimp (maxSteps:=4000000) (maxDischargeDepth:=8) -implicitDefEqProofs [*,-Int.not_le,-Int.not_lt,amLt,ap4,aeq_bools]|with_reducible (first|apply cB|apply iB)<;>intro _|intro _)
  ·repeat (any_goals first|simp -dsimp (maxSteps:=4000000) (maxDischargeDepth:=8) -implicitDefEqProofs [*,-Int.not_le,-Int.not_lt,amLt,ap4,aeq_bools]|with_reducible (first|apply cB|apply iB)<;>intro _|intro _)
 ·rw [if_neg k13,if_neg k13]
  have e13:¬ (13:Int)=kind:=fun e=>k13 e.symm
  by_cases k14:kind=14
  ·subst k14
   rw [if_pos rfl,if_pos rfl]
   clear k13 e13 htg
   by_cases e2:tag=[]
   ·cases done with
    | false =>
     by_cases e4:mem=[]
     ·subst e4
      by_cases e5:0≤elem
      ·by_cases e6:elem<i
       ·repeat (any_goals first|simp -dsimp (maxSteps:=4000000) (maxDischargeDepth:=8) -implicitDefEqProofs [*,-Int.not_le,-Int.not_lt,amLt,ap4,aeq_bools,aeq_same,r9_told,r14_told,memRows]|with_reducible (first|apply cB|apply iB)<;>intro _|intro _)
       ·repeat (any_goals first|simp -dsimp (maxSteps:=4000000) (maxDischargeDepth:=8) -implicitDefEqProofs [*,-Int.not_le,-Int.not_lt,amLt,ap4,aeq_bools,aeq_same,r9_told,r14_told,memRows]|with_reducible (first|apply cB|apply iB)<;>intro _|intro _)
      ·repeat (any_goals first|simp -dsimp (maxSteps:=4000000) (maxDischargeDepth:=8) -implicitDefEqProofs [*,-Int.not_le,-Int.not_lt,amLt,ap4,aeq_bools,aeq_same,r9_told,r14_told,memRows]|with_reducible (first|apply cB|apply iB)<;>intro _|intro _)
     ·have e4':0<mem.length:=List.length_pos_iff.2 e4
      repeat (any_goals first|simp -dsimp (maxSteps:=4000000) (maxDischargeDepth:=8) -implicitDefEqProofs [*,-Int.not_le,-Int.not_lt,amLt,ap4,aeq_bools,aeq_same,r9_told,r14_told]|with_reducible (first|apply cB|apply iB)<;>intro _|intro _)
    | true =>
     repeat (any_goals first|simp -dsimp (maxSteps:=4000000) (maxDischargeDepth:=8) -implicitDefEqProofs [*,-Int.not_le,-Int.not_lt,amLt,ap4,aeq_bools,aeq_same,r9_told,r14_told]|with_reducible (first|apply cB|apply iB)<;>intro _|intro _)
   ·repeat (any_goals first|simp -dsimp (maxSteps:=4000000) (maxDischargeDepth:=8) -implicitDefEqProofs [*,-Int.not_le,-Int.not_lt,amLt,ap4,aeq_bools,aeq_same,r9_told,r14_told]|with_reducible (first|apply cB|apply iB)<;>intro _|intro _)
  ·rw [if_neg k14,if_neg k14]
   by_cases k12:kind=12
   ·subst k12
    rw [if_pos rfl,if_pos rfl]
    clear k13 e13 k14 hlg
    by_cases e1:elem=0
    ·by_cases e2:len=0
     ·cases done with
      | false =>
       by_cases e4:mem=[]
       ·subst e4
        repeat (any_goals first|simp -dsimp (maxSteps:=4000000) (maxDischargeDepth:=8) -implicitDefEqProofs [*,-Int.not_le,-Int.not_lt,amLt,ap4,aeq_bools,aeq_same,r9_told,r14_told,memRows]|with_reducible (first|apply cB|apply iB)<;>intro _|intro _)
       ·have e4':0<mem.length:=List.length_pos_iff.2 e4
        repeat (any_goals first|simp -dsimp (maxSteps:=4000000) (maxDischargeDepth:=8) -implicitDefEqProofs [*,-Int.not_le,-Int.not_lt,amLt,ap4,aeq_bools,aeq_same,r9_told,r14_told]|with_reducible (first|apply cB|apply iB)<;>intro _|intro _)
      | true =>
       repeat (any_goals first|simp -dsimp (maxSteps:=4000000) (maxDischargeDepth:=8) -implicitDefEqProofs [*,-Int.not_le,-Int.not_lt,amLt,ap4,aeq_bools,aeq_same,r9_told,r14_told]|with_reducible (first|apply cB|apply iB)<;>intro _|intro _)
     ·repeat (any_goals first|simp -dsimp (maxSteps:=4000000) (maxDischargeDepth:=8) -implicitDefEqProofs [*,-Int.not_le,-Int.not_lt,amLt,ap4,aeq_bools,aeq_same,r9_told,r14_told]|with_reducible (first|apply cB|apply iB)<;>intro _|intro _)
    ·repeat (any_goals first|simp -dsimp (maxSteps:=4000000) (maxDischargeDepth:=8) -implicitDefEqProofs [*,-Int.not_le,-Int.not_lt,amLt,ap4,aeq_bools,aeq_same,r9_told,r14_told]|with_reducible (first|apply cB|apply iB)<;>intro _|intro _)
   ·rw [if_neg k12,if_neg k12]
    by_cases k15:kind=15∨kind=16
    ·rw [if_pos k15,if_pos k15]
     clear k13 e13 k14 k12 hlg
     by_cases e1:elem=0
     ·by_cases e2:len=0
      ·cases done with
       | false =>
        by_cases e4:mem=[]
        ·subst e4
         rcases k15 with rfl|rfl
         ·repeat (any_goals first|simp -dsimp (maxSteps:=4000000) (maxDischargeDepth:=8) -implicitDefEqProofs [*,-Int.not_le,-Int.not_lt,amLt,ap4,aeq_bools,aeq_same,r9_told,r14_told,memRows]|with_reducible (first|apply cB|apply iB)<;>intro _|intro _)
         ·repeat (any_goals first|simp -dsimp (maxSteps:=4000000) (maxDischargeDepth:=8) -implicitDefEqProofs [*,-Int.not_le,-Int.not_lt,amLt,ap4,aeq_bools,aeq_same,r9_told,r14_told,memRows]|with_reducible (first|apply cB|apply iB)<;>intro _|intro _)
        ·have e4':0<mem.length:=List.length_pos_iff.2 e4
         rcases k15 with rfl|rfl
         ·repeat (any_goals first|simp -dsimp (maxSteps:=4000000) (maxDischargeDepth:=8) -implicitDefEqProofs [*,-Int.not_le,-Int.not_lt,amLt,ap4,aeq_bools,aeq_same,r9_told,r14_told]|with_reducible (first|apply cB|apply iB)<;>intro _|intro _)
         ·repeat (any_goals first|simp -dsimp (maxSteps:=4000000) (maxDischargeDepth:=8) -implicitDefEqProofs [*,-Int.not_le,-Int.not_lt,amLt,ap4,aeq_bools,aeq_same,r9_told,r14_told]|with_reducible (first|apply cB|apply iB)<;>intro _|intro _)
       | true =>
        rcases k15 with rfl|rfl
        ·repeat (any_goals first|simp -dsimp (maxSteps:=4000000) (maxDischargeDepth:=8) -implicitDefEqProofs [*,-Int.not_le,-Int.not_lt,amLt,ap4,aeq_bools,aeq_same,r9_told,r14_told]|with_reducible (first|apply cB|apply iB)<;>intro _|intro _)
        ·repeat (any_goals first|simp -dsimp (maxSteps:=4000000) (maxDischargeDepth:=8) -implicitDefEqProofs [*,-Int.not_le,-Int.not_lt,amLt,ap4,aeq_bools,aeq_same,r9_told,r14_told]|with_reducible (first|apply cB|apply iB)<;>intro _|intro _)
      ·rcases k15 with rfl|rfl
       ·repeat (any_goals first|simp -dsimp (maxSteps:=4000000) (maxDischargeDepth:=8) -implicitDefEqProofs [*,-Int.not_le,-Int.not_lt,amLt,ap4,aeq_bools,aeq_same,r9_told,r14_told]|with_reducible (first|apply cB|apply iB)<;>intro _|intro _)
       ·repeat (any_goals first|simp -dsimp (maxSteps:=4000000) (maxDischargeDepth:=8) -implicitDefEqProofs [*,-Int.not_le,-Int.not_lt,amLt,ap4,aeq_bools,aeq_same,r9_told,r14_told]|with_reducible (first|apply cB|apply iB)<;>intro _|intro _)
     ·rcases k15 with rfl|rfl
      ·repeat (any_goals first|simp -dsimp (maxSteps:=4000000) (maxDischargeDepth:=8) -implicitDefEqProofs [*,-Int.not_le,-Int.not_lt,amLt,ap4,aeq_bools,aeq_same,r9_told,r14_told]|with_reducible (first|apply cB|apply iB)<;>intro _|intro _)
      ·repeat (any_goals first|simp -dsimp (maxSteps:=4000000) (maxDischargeDepth:=8) -implicitDefEqProofs [*,-Int.not_le,-Int.not_lt,amLt,ap4,aeq_bools,aeq_same,r9_told,r14_told]|with_reducible (first|apply cB|apply iB)<;>intro _|intro _)
    ·rw [if_neg k15,if_neg k15]
     have n15:¬ kind=15:=fun e=>k15 (.inl e)
     have n16:¬ kind=16:=fun e=>k15 (.inr e)
     clear k15 hlg htg e13
     repeat (any_goals first|simp -dsimp (maxSteps:=4000000) (maxDischargeDepth:=8) -implicitDefEqProofs [*,-Int.not_le,-Int.not_lt,amLt,ap4,aeq_bools,aeq_same,r9_told,r14_told]|with_reducible (first|apply cB|apply iB)<;>intro _|intro _)
end
theorem keyC_str (s:List UInt8):keyCells false (.str s)=some [.str s]:=rfl
theorem keyO_str (s:List UInt8):keyOK [.str] [.str s]=true:=rfl
theorem found_some (z:AV) (i:Nat) (v:AV):found z false (some (i,v))=v:=rfl
theorem found_none (z:AV):found z false none=z:=rfl
theorem eqc_str (a b:List UInt8):eqCells [.str] [.str a] [.str b]=some (a == b):=by simp [eqCells]
abbrev Ents:=List (AV × AV × Nat)
def SeenOK (es:Ents) (seen:List (List UInt8)):Prop:=(∀ e ∈ es,∃ nm c,e.1 = .str nm∧e.2.1 = .int .i64 c∧1≤c∧c≤seen.length∧nm ∈ seen)∧∀ nm ∈ seen,∃ e ∈ es,e.1 = .str nm
theorem seen_find {seen:List (List UInt8)} (nm:List UInt8):∀ (es:Ents) (j:Nat),(∀ e ∈ es,∃ n c,e.1 = .str n∧e.2.1 = .int .i64 c∧1≤c∧c≤seen.length∧n ∈ seen) →
  (∃ i c,findA false [.str] [.str nm] es j=some (some (j+i,.int .i64 c))∧1≤c∧c≤seen.length∧i<es.length∧nm ∈ seen)∨(findA false [.str] [.str nm] es j=some none∧∀ e ∈ es,e.1 ≠ .str nm):=by
 intro es
 induction es with
 | nil=>intro j _;exact .inr ⟨rfl,by simp⟩
 | cons e r ih =>
  intro j h
  obtain ⟨n,c,h1,h2,h3,h4,h5⟩:=h e (by simp)
  obtain ⟨k,v,q⟩:=e
  dsimp only at h1 h2
  subst h1 h2
  simp only [findA,keyC_str,eqc_str]
  by_cases hn:nm=n
  ·subst hn
   left
   refine ⟨0,c,by simp,h3,h4,by simp,h5⟩
  ·have:(nm == n)=false:=by simpa using hn
   rw [this]
   rcases ih (j+1) (fun x hx=>h x (by simp [hx])) with ⟨i,c',g1,g2,g3,g4,g5⟩|⟨g1,g2⟩
   ·left
    refine ⟨i+1,c',?_,g2,g3,by simp;omega,g5⟩
    dsimp only
    rw [g1,show j+1+i=j+(i+1) by omega]
   ·right
    refine ⟨g1,fun x hx=>?_⟩
    rcases List.mem_cons.1 hx with rfl|hx
    ·intro e;cases e;exact hn rfl
    ·exact g2 x hx
theorem seen_in {es:Ents} {seen:List (List UInt8)} (h:SeenOK es seen) {nm:List UInt8} (hn:nm ∈ seen):∃ i c,findA false [.str] [.str nm] es 0=some (some (i,.int .i64 c))∧1≤c∧c≤seen.length∧i<es.length:=by
 rcases seen_find nm es 0 h.1 with ⟨i,c,g1,g2,g3,g4,_⟩|⟨_,g2⟩
 ·exact ⟨i,c,by simpa using g1,g2,g3,g4⟩
 ·obtain ⟨e,he,h2⟩:=h.2 nm hn
  exact absurd h2 (g2 e he)
theorem seen_out {es:Ents} {seen:List (List UInt8)} (h:SeenOK es seen) {nm:List UInt8} (hn:nm ∉ seen):findA false [.str] [.str nm] es 0=some none:=by
 rcases seen_find nm es 0 h.1 with ⟨i,c,g1,g2,g3,g4,g5⟩|⟨g1,g2⟩
 ·exact absurd g5 hn
 ·exact g1
theorem seen_add {es:Ents} {seen:List (List UInt8)} (h:SeenOK es seen) (nm:List UInt8) (ck:Nat):SeenOK (es ++ [(.str nm,.int .i64 1,ck)]) (seen ++ [nm]):=by
 refine ⟨fun e he=>?_,fun n hn=>?_⟩
 ·rcases List.mem_append.1 he with he|he
  ·obtain ⟨n,c,h1,h2,h3,h4,h5⟩:=h.1 e he
   exact ⟨n,c,h1,h2,h3,by simp;omega,by simp [h5]⟩
  ·simp only [List.mem_singleton] at he
   subst he
   exact ⟨nm,1,rfl,rfl,by omega,by simp;omega,by simp⟩
 ·rcases List.mem_append.1 hn with hn|hn
  ·obtain ⟨e,he,h2⟩:=h.2 n hn
   exact ⟨e,by simp [he],h2⟩
  ·simp only [List.mem_singleton] at hn
   subst hn
   exact ⟨(.str n,.int .i64 1,ck),by simp,rfl⟩
theorem seen_mod {es:Ents} {seen:List (List UInt8)} (h:SeenOK es seen) {nm:List UInt8} {i:Nat} {c:Int} (hf:findA false [.str] [.str nm] es 0=some (some (i,.int .i64 c))) (h1:1≤c) (h2:c≤seen.length) (hn:nm ∈ seen) :
  SeenOK (es.modify i fun q=>(.str nm,.int .i64 (c+1),q.2.2)) (seen ++ [nm]):=by
 have hat:∀ (es:Ents) (j:Nat),findA false [.str] [.str nm] es j=some (some (j+i,.int .i64 c))→(∀ e ∈ es,∃ n c,e.1 = .str n∧e.2.1 = .int .i64 c∧1≤c∧c≤seen.length∧n ∈ seen)→∃ e,es[i]?=some e∧e.1 = .str nm:=by
  clear hf h
  induction i with
  | zero =>
   intro es j hf h
   cases es with
   | nil=>simp [findA] at hf
   | cons e r =>
    obtain ⟨n,c',q1,q2,_,_,_⟩:=h e (by simp)
    obtain ⟨k,v,w⟩:=e
    dsimp only at q1 q2
    subst q1 q2
    simp only [findA,keyC_str,eqc_str] at hf
    by_cases hn:nm=n
    ·subst hn;exact ⟨_,rfl,rfl⟩
    ·have:(nm == n)=false:=by simpa using hn
     rw [this] at hf
     dsimp only at hf
     rcases seen_find nm r (j+1) (fun x hx=>h x (by simp [hx])) with ⟨i,c2,g1,_⟩|⟨g1,_⟩
     ·rw [g1] at hf;simp at hf;omega
     ·rw [g1] at hf;cases hf
  | succ i ih =>
   intro es j hf h
   cases es with
   | nil=>simp [findA] at hf
   | cons e r =>
    obtain ⟨n,c',q1,q2,_,_,_⟩:=h e (by simp)
    obtain ⟨k,v,w⟩:=e
    dsimp only at q1 q2
    subst q1 q2
    simp only [findA,keyC_str,eqc_str] at hf
    by_cases hn:nm=n
    ·subst hn;simp at hf
    ·have:(nm == n)=false:=by simpa using hn
     rw [this] at hf
     dsimp only at hf
     obtain ⟨e,g1,g2⟩:=ih r (j+1) (by rw [show j+1+i=j+(i+1) by omega];exact hf) (fun x hx=>h x (by simp [hx]))
     exact ⟨e,by simpa using g1,g2⟩
 obtain ⟨e0,he0,hk0⟩:=hat es 0 (by simpa using hf) h.1
 have hmem:∀ x,x ∈ es.modify i (fun q=>(AV.str nm,AV.int .i64 (c+1),q.2.2))→x ∈ es∨x.1 = .str nm∧x.2.1 = .int .i64 (c+1):=by
  intro x hx
  obtain ⟨j,hj⟩:=List.mem_iff_getElem?.1 hx
  rw [List.getElem?_modify] at hj
  by_cases e:i=j
  ·subst e
   rw [he0] at hj
   simp at hj
   subst hj
   exact .inr ⟨rfl,rfl⟩
  ·simp only [if_neg e] at hj
   left
   cases hq:es[j]? with
   | none=>rw [hq] at hj;cases hj
   | some y=>rw [hq] at hj;simp at hj;subst hj;exact List.mem_of_getElem? hq
 refine ⟨fun e he=>?_,fun n hn2=>?_⟩
 ·rcases hmem e he with he|⟨e1,e2⟩
  ·obtain ⟨n,c',q1,q2,q3,q4,q5⟩:=h.1 e he
   exact ⟨n,c',q1,q2,q3,by simp;omega,by simp [q5]⟩
  ·exact ⟨nm,c+1,e1,e2,by omega,by simp;omega,by simp⟩
 ·have hn3:n ∈ seen:=by
   rcases List.mem_append.1 hn2 with q|q
   ·exact q
   ·simp only [List.mem_singleton] at q;subst q;exact hn
  obtain ⟨e,he,h2⟩:=h.2 n hn3
  obtain ⟨j,hj⟩:=List.mem_iff_getElem?.1 he
  by_cases q:i=j
  ·subst q
   rw [he0] at hj
   cases hj
   refine ⟨(.str nm,.int .i64 (c+1),e0.2.2),?_,by rw [← hk0];exact h2⟩
   refine List.mem_of_getElem? (i:=i) ?_
   rw [List.getElem?_modify,he0]
   simp
  ·refine ⟨e,?_,h2⟩
   refine List.mem_of_getElem? (i:=j) ?_
   rw [List.getElem?_modify,hj]
   simp [q]
theorem seen_nil:SeenOK [] []:=And.intro (fun e he=>by cases he) (fun n hn=>by cases hn)
section
variable {H:Heap} {T R M cap:Nat} {ex:Bool} {rows:List TR}
theorem mem_body (ht:TabAt H T R M cap ex rows) (l:List Mem) (c0:Cap) (hl:l.length≤64) (i:Nat) (m:Mem) (hi:l[i]?=some m) (hn:m.1.length≤1048576) (es:Ents) (ck:Nat) (seen:List (List UInt8)) (hseen:seen.length≤64) (hs:SeenOK es seen) (X:Heap) (h0:memE (wholeS rows) (kindS rows) (hasS rows) seen m=0) :
  ∃ es' ck',SeenOK es' (seen ++ [m.1])∧Brun tab 84 f87l5 (ofL [(0,.mp T 0),(5,.mm H.length),(17,.is (memRows l) c0),(18,.int .i64 l.length),(19,.int .i64 i)]) (H ++ (.map es ck :: X)) =
   some (.normal,ofL [(0,.mp T 0),(5,.mm H.length),(17,.is (memRows l) c0),(18,.int .i64 l.length),(19,.int .i64 (i+1))],H ++ (.map es' ck' :: (X ++ [.cells (memRow m)]))):=by
 have hh:=fun x=>has_ok (rows:=rows) (ht.app x).t0 m.2.1
 have hw:=fun x=>whole_ok (ht.app x).t0 (ht.app x).r0 m.2.1
 have hd:=fun x=>wide_ok (ht.app x).t0 (ht.app x).r0 m.2.1 m.2.2
 have hlt:=(List.getElem?_eq_some_iff.1 hi).1
 have hrow:(memRows l)[i]?=some (memRow m):=by simp [memRows,hi]
 have hle:=fun h=>letters_ok h m.1 (by omega)
 have e3:¬ (l.length:Int)≤i:=by omega
 have hwr:=cw64 i (by omega)
 unfold memE at h0
 split at h0
 ·cases h0
 ·rename_i a1
  simp only [Bool.not_eq_false] at a1
  split at h0
  ·cases h0
  ·rename_i a2
   simp only [Bool.not_eq_false] at a2
   split at h0
   ·cases h0
   ·rename_i a3
    rw [a1] at hh
    rw [a2] at hw
    have hml:=memRows_len l
    unfold memRow at hrow ⊢
    obtain ⟨nm,ty,bits⟩:=m
    dsimp only at *
    generalize hk:wideK (kindS rows ty) bits=wd at *
    have hbits:bits = -1∨(¬ bits = -1∧wd=true):=by
     by_cases q:bits = -1
     ·exact .inl q
     ·right
      refine ⟨q,?_⟩
      cases wd with
      | true=>rfl
      | false=>exact absurd ⟨q,rfl⟩ a3
    have hname:(nm=[]∧¬ bits<0)∨(¬ nm=[]∧wordS nm=true∧¬ bits=0∧nm ∉ seen):=by
     by_cases q:nm=[]
     ·rw [if_pos q] at h0
      left
      refine ⟨q,fun r=>?_⟩
      rw [if_pos r] at h0
      cases h0
     ·rw [if_neg q] at h0
      right
      split at h0
      ·cases h0
      ·rename_i r
       refine ⟨q,?_,fun e=>r (.inr (.inl e)),fun e=>r (.inr (.inr e))⟩
       cases hq:wordS nm with
       | true=>rfl
       | false=>exact absurd (.inl hq) r
    have hent:(∃ j c,findA false [.str] [.str nm] es 0=some (some (j,.int .i64 c))∧1≤c∧c≤seen.length∧nm ∈ seen)∨(findA false [.str] [.str nm] es 0=some none):=by
     by_cases q:nm ∈ seen
     ·obtain ⟨j,c,g1,g2,g3,_⟩:=seen_in hs q
      exact .inl ⟨j,c,g1,g2,g3,q⟩
     ·exact .inr (seen_out hs q)
    rcases hent with ⟨j,c,g1,g2,g3,g4⟩|g1
    ·have hmod:=seen_mod hs g1 g2 g3 g4
     refine ⟨_,ck,hmod,?_⟩
     have hwc:IntKind.i64.wrap (c+1)=c+1:=IntWalk.i64_in _ (by omega)
     have hnil:nm=[]∧¬ bits<0:=by
      rcases hname with q|q
      ·exact q
      ·exact absurd g4 q.2.2.2
     obtain ⟨q1,q2⟩:=hnil
     have q3:¬ bits = -1:=by omega
     have q4:wd=true:=by rcases hbits with q|q;exact absurd q q3;exact q.2
     clear ht hl hn hs hlt hi a1 a2 a3 h0 hk hbits hname g2 g3 g4 hmod hle hseen
     subst q1 q4
     repeat (any_goals first|simp -dsimp (maxSteps:=4000000) (maxDischargeDepth:=8) -implicitDefEqProofs [*,-Int.not_le,-Int.not_lt,amLt,ap4,keyC_str,keyO_str,found_some,found_none,mapF_map]|with_reducible (first|apply cB|apply iB)<;>intro _|intro _)
    ·have hadd:=seen_add hs nm ck
     refine ⟨_,ck+1,hadd,?_⟩
     have hwc:IntKind.i64.wrap 1=1:=rfl
     clear ht hl hn hs hlt hi a1 a2 a3 h0 hk hadd hseen
     rcases hname with ⟨q1,q2⟩|⟨q1,q2,q3,q4⟩
     ·have q3:¬ bits = -1:=by omega
      have q4:wd=true:=by rcases hbits with q|q;exact absurd q q3;exact q.2
      subst q1 q4
      clear hbits hle
      repeat (any_goals first|simp -dsimp (maxSteps:=4000000) (maxDischargeDepth:=8) -implicitDefEqProofs [*,-Int.not_le,-Int.not_lt,amLt,ap4,keyC_str,keyO_str,found_some,found_none,mapF_map]|with_reducible (first|apply cB|apply iB)<;>intro _|intro _)
     ·rw [q2] at hle
      rcases hbits with rfl|⟨b1,rfl⟩
      ·repeat (any_goals first|simp -dsimp (maxSteps:=4000000) (maxDischargeDepth:=8) -implicitDefEqProofs [*,-Int.not_le,-Int.not_lt,amLt,ap4,keyC_str,keyO_str,found_some,found_none,mapF_map]|with_reducible (first|apply cB|apply iB)<;>intro _|intro _)
      ·repeat (any_goals first|simp -dsimp (maxSteps:=4000000) (maxDischargeDepth:=8) -implicitDefEqProofs [*,-Int.not_le,-Int.not_lt,amLt,ap4,keyC_str,keyO_str,found_some,found_none,mapF_map]|with_reducible (first|apply cB|apply iB)<;>intro _|intro _)
theorem mem_bad (ht:TabAt H T R M cap ex rows) (l:List Mem) (c0:Cap) (hl:l.length≤64) (i:Nat) (m:Mem) (hi:l[i]?=some m) (hn:m.1.length≤1048576) (es:Ents) (ck:Nat) (seen:List (List UInt8)) (hs:SeenOK es seen) (X:Heap) (h0:memE (wholeS rows) (kindS rows) (hasS rows) seen m≠0) :
  Brun tab 84 f87l5 (ofL [(0,.mp T 0),(5,.mm H.length),(17,.is (memRows l) c0),(18,.int .i64 l.length),(19,.int .i64 i)]) (H ++ (.map es ck :: X)) =
   some (.ret,ofL [(4,.int .i64 (memE (wholeS rows) (kindS rows) (hasS rows) seen m))],H ++ (.map es ck :: (X ++ [.cells (memRow m)]))):=by
 have hh:=fun x=>has_ok (rows:=rows) (ht.app x).t0 m.2.1
 have hw:=fun x=>whole_ok (ht.app x).t0 (ht.app x).r0 m.2.1
 have hd:=fun x=>wide_ok (ht.app x).t0 (ht.app x).r0 m.2.1 m.2.2
 have hlt:=(List.getElem?_eq_some_iff.1 hi).1
 have hrow:(memRows l)[i]?=some (memRow m):=by simp [memRows,hi]
 have hle:=fun h=>letters_ok h m.1 (by omega)
 have e3:¬ (l.length:Int)≤i:=by omega
 have hml:=memRows_len l
 unfold memE at h0 ⊢
 unfold memRow at hrow ⊢
 obtain ⟨nm,ty,bits⟩:=m
 dsimp only at *
 generalize hk:wideK (kindS rows ty) bits=wd at *
 cases ha:hasS rows ty with
 | false =>
  rw [ha] at hh
  clear h0 hw hd hle hk ht hs hi hlt hl hn
  rw [if_pos rfl]
  repeat (any_goals first|simp -dsimp (maxSteps:=4000000) (maxDischargeDepth:=8) -implicitDefEqProofs [*,-Int.not_le,-Int.not_lt,amLt,ap4]|with_reducible (first|apply cB|apply iB)<;>intro _|intro _)
 | true =>
  rw [ha] at hh h0
  rw [if_neg (by simp)] at h0 ⊢
  cases hb:wholeS rows ty with
  | false =>
   rw [hb] at hw
   rw [if_pos rfl]
   clear h0 hd hle hk ht hs hi hlt hl hn
   repeat (any_goals first|simp -dsimp (maxSteps:=4000000) (maxDischargeDepth:=8) -implicitDefEqProofs [*,-Int.not_le,-Int.not_lt,amLt,ap4]|with_reducible (first|apply cB|apply iB)<;>intro _|intro _)
  | true =>
   rw [hb] at hw h0
   rw [if_neg (by simp)] at h0 ⊢
   by_cases hc:bits ≠ -1∧wd=false
   ·obtain ⟨c1,rfl⟩:=hc
    rw [if_pos ⟨c1,rfl⟩]
    have c2:¬ bits = -1:=c1
    clear h0 hle hk ht hs hi hlt hl hn c1
    repeat (any_goals first|simp -dsimp (maxSteps:=4000000) (maxDischargeDepth:=8) -implicitDefEqProofs [*,-Int.not_le,-Int.not_lt,amLt,ap4]|with_reducible (first|apply cB|apply iB)<;>intro _|intro _)
   ·rw [if_neg hc] at h0 ⊢
    have hbits:bits = -1∨(¬ bits = -1∧wd=true):=by
     by_cases q:bits = -1
     ·exact .inl q
     ·right
      refine ⟨q,?_⟩
      cases wd with
      | true=>rfl
      | false=>exact absurd ⟨q,rfl⟩ hc
    by_cases q:nm=[]
    ·rw [if_pos q] at h0 ⊢
     have hneg:bits<0:=Classical.byContradiction fun r=>h0 (if_neg r)
     rw [if_pos hneg]
     subst q
     clear h0 hle hk ht hs hi hlt hl hn hc
     rcases hbits with rfl|⟨b1,rfl⟩
     ·repeat (any_goals first|simp -dsimp (maxSteps:=4000000) (maxDischargeDepth:=8) -implicitDefEqProofs [*,-Int.not_le,-Int.not_lt,amLt,ap4]|with_reducible (first|apply cB|apply iB)<;>intro _|intro _)
     ·repeat (any_goals first|simp -dsimp (maxSteps:=4000000) (maxDischargeDepth:=8) -implicitDefEqProofs [*,-Int.not_le,-Int.not_lt,amLt,ap4]|with_reducible (first|apply cB|apply iB)<;>intro _|intro _)
    ·rw [if_neg q] at h0 ⊢
     have hbad:wordS nm=false∨bits=0∨nm ∈ seen:=Classical.byContradiction fun r=>h0 (if_neg r)
     rw [if_pos hbad]
     cases hwd:wordS nm with
     | false =>
      rw [hwd] at hle
      clear h0 hk ht hs hi hlt hl hn hc hbad
      rcases hbits with rfl|⟨b1,rfl⟩
      ·repeat (any_goals first|simp -dsimp (maxSteps:=4000000) (maxDischargeDepth:=8) -implicitDefEqProofs [*,-Int.not_le,-Int.not_lt,amLt,ap4]|with_reducible (first|apply cB|apply iB)<;>intro _|intro _)
      ·repeat (any_goals first|simp -dsimp (maxSteps:=4000000) (maxDischargeDepth:=8) -implicitDefEqProofs [*,-Int.not_le,-Int.not_lt,amLt,ap4]|with_reducible (first|apply cB|apply iB)<;>intro _|intro _)
     | true =>
      rw [hwd] at hle
      by_cases b0:bits=0
      ·subst b0
       have wt:wd=true:=by rcases hbits with r|r;exact absurd r (by decide);exact r.2
       subst wt
       clear h0 hk ht hs hi hlt hl hn hc hbad hbits
       repeat (any_goals first|simp -dsimp (maxSteps:=4000000) (maxDischargeDepth:=8) -implicitDefEqProofs [*,-Int.not_le,-Int.not_lt,amLt,ap4]|with_reducible (first|apply cB|apply iB)<;>intro _|intro _)
      ·have hin:nm ∈ seen:=by
        rcases hbad with r|r|r
        ·rw [hwd] at r;cases r
        ·exact absurd r b0
        ·exact r
       obtain ⟨j,c,g1,g2,g3,_⟩:=seen_in hs hin
       have g4:¬ c≤0:=by omega
       clear h0 hk ht hs hi hlt hl hn hc hbad hin g2 g3
       rcases hbits with rfl|⟨b1,rfl⟩
       ·repeat (any_goals first|simp -dsimp (maxSteps:=4000000) (maxDischargeDepth:=8) -implicitDefEqProofs [*,-Int.not_le,-Int.not_lt,amLt,ap4,keyC_str,keyO_str,found_some,found_none,mapF_map]|with_reducible (first|apply cB|apply iB)<;>intro _|intro _)
       ·repeat (any_goals first|simp -dsimp (maxSteps:=4000000) (maxDischargeDepth:=8) -implicitDefEqProofs [*,-Int.not_le,-Int.not_lt,amLt,ap4,keyC_str,keyO_str,found_some,found_none,mapF_map]|with_reducible (first|apply cB|apply iB)<;>intro _|intro _)
theorem mems_loop (ht:TabAt H T R M cap ex rows) (l:List Mem) (c0:Cap) (hl:l.length≤64) (hn:∀ m ∈ l,m.1.length≤1048576):∀ (r:List Mem) (i:Nat) (es:Ents) (ck:Nat) (seen:List (List UInt8)) (X:Heap),l.drop i=r→i≤l.length→seen.length=i→SeenOK es seen →
  ∃ Y,(memsE (wholeS rows) (kindS rows) (hasS rows) seen r=0→Brun tab 84 (.loop f87l5) (ofL [(0,.mp T 0),(5,.mm H.length),(17,.is (memRows l) c0),(18,.int .i64 l.length),(19,.int .i64 i)]) (H ++ (.map es ck :: X)) =
    some (.exit 0,ofL [(0,.mp T 0),(5,.mm H.length),(17,.is (memRows l) c0),(18,.int .i64 l.length),(19,.int .i64 l.length),(20,.bool false)],H ++ Y)) ∧
   (memsE (wholeS rows) (kindS rows) (hasS rows) seen r≠0→Brun tab 84 (.loop f87l5) (ofL [(0,.mp T 0),(5,.mm H.length),(17,.is (memRows l) c0),(18,.int .i64 l.length),(19,.int .i64 i)]) (H ++ (.map es ck :: X)) =
    some (.ret,ofL [(4,.int .i64 (memsE (wholeS rows) (kindS rows) (hasS rows) seen r))],H ++ Y)):=by
 intro r
 induction r with
 | nil =>
  intro i es ck seen X hr hi _ _
  have hlen:=congrArg List.length hr
  simp only [List.length_drop,List.length_nil] at hlen
  refine ⟨.map es ck :: X,fun _=>?_,fun h=>absurd rfl h⟩
  have e3:(l.length:Int)=i:=by omega
  rw [Brun_loop]
  clear hr hi hlen hl hn ht
  repeat (any_goals first|simp -dsimp (maxSteps:=4000000) (maxDischargeDepth:=8) -implicitDefEqProofs [*,-Int.not_le,-Int.not_lt,amLt]|with_reducible (first|apply cB|apply iB)<;>intro _|intro _)
 | cons m r ih =>
  intro i es ck seen X hr hi hsl hs
  have hlen:=congrArg List.length hr
  simp only [List.length_drop,List.length_cons] at hlen
  have hg:l[i]?=some m:=by
   have:=congrArg (·[0]?) hr
   simpa using this
  have htl:l.drop (i+1)=r:=by
   have:=congrArg List.tail hr
   simpa using this
  have hnm:=hn m (List.mem_of_getElem? hg)
  have hM:memsE (wholeS rows) (kindS rows) (hasS rows) seen (m :: r)=if memE (wholeS rows) (kindS rows) (hasS rows) seen m=0 then memsE (wholeS rows) (kindS rows) (hasS rows) (seen ++ [m.1]) r else memE (wholeS rows) (kindS rows) (hasS rows) seen m:=rfl
  rw [hM]
  by_cases h0:memE (wholeS rows) (kindS rows) (hasS rows) seen m=0
  ·obtain ⟨es',ck',hs',hbd⟩:=mem_body ht l c0 hl i m hg hnm es ck seen (by omega) hs X h0
   obtain ⟨Y,y1,y2⟩:=ih (i+1) es' ck' (seen ++ [m.1]) (X ++ [.cells (memRow m)]) htl (by omega) (by simp;omega) hs'
   push_cast at y1 y2
   rw [if_pos h0]
   refine ⟨Y,fun q=>?_,fun q=>?_⟩
   ·rw [Brun_loop,hbd,bthen_normal];exact y1 q
   ·rw [Brun_loop,hbd,bthen_normal];exact y2 q
  ·have hbd:=mem_bad ht l c0 hl i m hg hnm es ck seen hs X h0
   rw [if_neg h0]
   refine ⟨.map es ck :: (X ++ [.cells (memRow m)]),fun q=>absurd q h0,fun _=>?_⟩
   rw [Brun_loop,hbd,bthen_ret]
theorem members_ok (ht:TabAt H T R M cap ex rows) (l:List Mem) (c0:Cap) (hll:l.length≤16777216) (hn:∀ m ∈ l,m.1.length≤1048576) :
  ∃ Y,Ccall tab 87 [.mp T 0,.is (memRows l) c0] H=some (.int .i64 (membersE (wholeS rows) (kindS rows) (hasS rows) l),H ++ Y):=by
 unfold membersE
 have hml:=memRows_len l
 by_cases q:l.length<1∨64<l.length
 ·rw [if_pos q]
  refine ⟨[],?_⟩
  refine Ccall_over rfl rfl rfl rfl ?_
  clear ht hll hn
  by_cases q1:l.length<1
  ·have q2:(l.length:Int)<1:=by omega
   have q3:l.length=0:=by omega
   rw [List.append_nil]
   clear q
   repeat (any_goals first|simp -dsimp (maxSteps:=4000000) (maxDischargeDepth:=8) -implicitDefEqProofs [*,-Int.not_le,-Int.not_lt,amLt]|with_reducible (first|apply cB|apply iB)<;>intro _|intro _)
  ·have q2:¬ (l.length:Int)<1:=by omega
   have q3:¬ (l.length:Int)≤64:=by omega
   have q4:¬ l.length=0:=by omega
   rw [List.append_nil]
   clear q
   repeat (any_goals first|simp -dsimp (maxSteps:=4000000) (maxDischargeDepth:=8) -implicitDefEqProofs [*,-Int.not_le,-Int.not_lt,amLt]|with_reducible (first|apply cB|apply iB)<;>intro _|intro _)
 ·rw [if_neg q]
  have q2:¬ (l.length:Int)<1:=by omega
  have q3:(l.length:Int)≤64:=by omega
  have q4:¬ l.length=0:=by omega
  obtain ⟨Y,y1,y2⟩:=mems_loop ht l c0 (by omega) hn l 0 [] 0 [] [] rfl (by omega) rfl seen_nil
  simp only [Int.natCast_zero] at y1 y2
  refine ⟨Y,?_⟩
  refine Ccall_over rfl rfl rfl rfl ?_
  clear ht hll hn q
  by_cases h0:memsE (wholeS rows) (kindS rows) (hasS rows) [] l=0
  ·have y1:=y1 h0
   rw [h0]
   clear y2 h0
   repeat (any_goals first|simp -dsimp (maxSteps:=4000000) (maxDischargeDepth:=8) -implicitDefEqProofs [*,-Int.not_le,-Int.not_lt,amLt,ap4]|with_reducible (first|apply cB|apply iB)<;>intro _|intro _)
  ·have y2:=y2 h0
   generalize memsE (wholeS rows) (kindS rows) (hasS rows) [] l=e at *
   clear y1 h0
   repeat (any_goals first|simp -dsimp (maxSteps:=4000000) (maxDischargeDepth:=8) -implicitDefEqProofs [*,-Int.not_le,-Int.not_lt,amLt,ap4]|with_reducible (first|apply cB|apply iB)<;>intro _|intro _)
end
def basicT (k:Nat):TR:=⟨(k:Int)+1,0,0,[],[],false,.nil⟩
def basicsT (k:Nat):List TR:=(List.range k).map basicT
theorem basics_len (k:Nat):(basicsT k).length=k:=by simp [basicsT]
theorem basics_succ (k:Nat):basicsT (k+1)=basicsT k ++ [basicT k]:=by simp [basicsT,List.range_succ]
theorem cells_app (a b:List TR):cellsT (a ++ b)=cellsT a ++ cellsT b:=by simp [cellsT]
theorem cells_one (r:TR):cellsT [r]=trow r:=by simp [cellsT]
theorem new_first (H:Heap):Brun tab 22 f35l3 (ofL [(1,.mp (H.length+1) 0),(2,.int .i64 1)]) (H ++ [.map [] 0,.cells [.is [] .nil,.mm H.length]]) =
  some (.normal,ofL [(1,.mp (H.length+1) 0),(2,.int .i64 2)],H ++ [.map [] 0,.cells [.ms (H.length+3) 0 1 6 1 false,.mm H.length],.cells (trow (basicT 0)),.cells (trow (basicT 0))]):=by
 have e:trow (basicT 0)=[.int .i64 1,.int .i64 0,.int .i64 0,.str [],.is [] .nil,.bool false]:=rfl
 rw [e]
 have hr:roomy 1 72=true:=rfl
 have hw:IntKind.i64.wrap (1+1)=2:=rfl
 have hw2:IntKind.i64.wrap 2=2:=rfl
 repeat (any_goals first|simp -dsimp (maxSteps:=4000000) (maxDischargeDepth:=8) -implicitDefEqProofs [*,-Int.not_le,-Int.not_lt,amLt,ap4,slen,ssz,scellsF,rowsz,Cap.tight,Nat.add_assoc]|with_reducible (first|apply cB|apply iB)<;>intro _|intro _)
theorem new_next (H Z:Heap) (r k:Nat) (M:AV) (cs:List AV) (hk:k≤600) (hk0:1≤k) (hr1:r≠1) (h1:Z[1]?=some (.cells [.ms (H.length+r) 0 k 6 k false,M])) (hrz:Z[r]?=some (.cells cs)) (hcs:cs.length=k*6) (hk11:k<11) :
  Brun tab 22 f35l3 (ofL [(1,.mp (H.length+1) 0),(2,.int .i64 ((k:Int)+1))]) (H ++ Z) =
  some (.normal,ofL [(1,.mp (H.length+1) 0),(2,.int .i64 ((k:Int)+2))],H ++ ((Z.set r .dead).set 1 (.cells [.ms (H.length+(Z.length+1)) 0 (k+1) 6 (k+1) false,M]) ++ [.cells (trow (basicT k)),.cells (cs ++ trow (basicT k))])):=by
 have e:trow (basicT k)=[.int .i64 ((k:Int)+1),.int .i64 0,.int .i64 0,.str [],.is [] .nil,.bool false]:=rfl
 rw [e]
 have l1:=(List.getElem?_eq_some_iff.1 h1).1
 have lr:=(List.getElem?_eq_some_iff.1 hrz).1
 have g1:∀ x,(Z ++ x)[1]?=some (.cells [.ms (H.length+r) 0 k 6 k false,M]):=fun x=>by rw [List.getElem?_append_left l1];exact h1
 have g1':∀ x (hh:1<(Z ++ x).length),(Z ++ x)[1]'hh = .cells [.ms (H.length+r) 0 k 6 k false,M]:=fun x hh=>(List.getElem?_eq_some_iff.1 (g1 x)).2
 have gr:∀ x,(Z ++ x)[r]?=some (.cells cs):=fun x=>by rw [List.getElem?_append_left lr];exact hrz
 have s1:∀ x b,(Z ++ x).set r b=Z.set r b ++ x:=fun x b=>by rw [List.set_append_left _ _ lr]
 have g2:∀ x,(Z.set r .dead ++ x)[1]?=some (.cells [.ms (H.length+r) 0 k 6 k false,M]):=fun x=>by
  rw [List.getElem?_append_left (by rw [List.length_set];exact l1),List.getElem?_set_ne hr1];exact h1
 have g2':∀ x (hh:1<(Z.set r .dead ++ x).length),(Z.set r .dead ++ x)[1]'hh = .cells [.ms (H.length+r) 0 k 6 k false,M]:=fun x hh=>(List.getElem?_eq_some_iff.1 (g2 x)).2
 have s2:∀ x b,(Z.set r .dead ++ x).set 1 b=(Z.set r .dead).set 1 b ++ x:=fun x b=>by rw [List.set_append_left _ _ (by rw [List.length_set];exact l1)]
 have hl:(Z.set r Blk.dead).length=Z.length:=List.length_set ..
 have hroom:roomy (k+1) 72=true:=roomy_sm (by omega) (by decide)
 have hw:IntKind.i64.wrap ((k:Int)+1+1)=(k:Int)+2:=by rw [IntWalk.i64_in _ (by omega)];omega
 have hle:((k:Int)+1)≤11:=by omega
 have htk:cs.take (k*6)=cs:=List.take_of_length_le (by omega)
 have hkk:¬ k+1≤k:=by omega
 have hcl:k*6≤cs.length:=by omega
 clear h1 hrz hk hk0 hr1 hk11 l1 lr e
 repeat (any_goals first|simp -dsimp (maxSteps:=4000000) (maxDischargeDepth:=8) -implicitDefEqProofs [*,-Int.not_le,-Int.not_lt,amLt,ap4,slen,ssz,scellsF,rowsz,Cap.tight,Nat.add_assoc]|with_reducible (first|apply cB|apply iB)<;>intro _|intro _)
structure NewInv (H Z:Heap) (r k:Nat):Prop where
 z0:Z[0]?=some (.map [] 0)
 z1:Z[1]?=some (.cells [.ms (H.length+r) 0 k 6 k false,.mm H.length])
 zr:Z[r]?=some (.cells (cellsT (basicsT k)))
 r2:2≤r
theorem new_step {H Z:Heap} {r k:Nat} (h:NewInv H Z r k) (hk0:1≤k) (hk:k<11):∃ Z' r',NewInv H Z' r' (k+1)∧Brun tab 22 f35l3 (ofL [(1,.mp (H.length+1) 0),(2,.int .i64 ((k:Int)+1))]) (H ++ Z) =
  some (.normal,ofL [(1,.mp (H.length+1) 0),(2,.int .i64 ((k:Int)+2))],H ++ Z'):=by
 have hb:=new_next H Z r k (.mm H.length) (cellsT (basicsT k)) (by omega) hk0 (by have:=h.r2;omega) h.z1 h.zr (by rw [cells_len,basics_len]) hk
 have l1:=(List.getElem?_eq_some_iff.1 h.z1).1
 have hr2:=h.r2
 refine ⟨_,Z.length+1,?_,hb⟩
 refine ⟨?_,?_,?_,by omega⟩
 ·rw [List.getElem?_append_left (by simp only [List.length_set];omega),List.getElem?_set_ne (by omega),List.getElem?_set_ne (by omega)]
  exact h.z0
 ·rw [List.getElem?_append_left (by simp only [List.length_set];exact l1),List.getElem?_set]
  simp [l1]
 ·rw [List.getElem?_append_right (by simp only [List.length_set];omega)]
  simp only [List.length_set,Nat.add_sub_cancel_left]
  rw [basics_succ,cells_app,cells_one]
  rfl
theorem new_loop (H:Heap):∀ (m k:Nat) (Z:Heap) (r:Nat),k+m=11→1≤k→NewInv H Z r k→∃ Z' r',NewInv H Z' r' 11∧Brun tab 22 (.loop f35l3) (ofL [(1,.mp (H.length+1) 0),(2,.int .i64 ((k:Int)+1))]) (H ++ Z) =
  some (.exit 0,ofL [(1,.mp (H.length+1) 0),(2,.int .i64 12),(7,.bool false)],H ++ Z'):=by
 intro m
 induction m with
 | zero =>
  intro k Z r hk h1 h
  have hk:k=11:=by omega
  subst hk
  refine ⟨Z,r,h,?_⟩
  have e:(((11:Nat):Int)+1)=12:=rfl
  rw [Brun_loop,e]
  clear h h1
  repeat (any_goals first|simp -dsimp (maxSteps:=4000000) (maxDischargeDepth:=8) -implicitDefEqProofs [*,-Int.not_le,-Int.not_lt,amLt]|with_reducible (first|apply cB|apply iB)<;>intro _|intro _)
 | succ m ih =>
  intro k Z r hk h1 h
  obtain ⟨Z1,r1,h2,hb⟩:=new_step h h1 (by omega)
  obtain ⟨Z',r',h3,h4⟩:=ih (k+1) Z1 r1 (by omega) (by omega) h2
  refine ⟨Z',r',h3,?_⟩
  rw [Brun_loop,hb,bthen_normal]
  rw [show ((k+1:Nat):Int)+1=(k:Int)+2 by push_cast;omega] at h4
  exact h4
theorem new_ok (H:Heap):∃ Z r,NewInv H Z r 11∧Ccall tab 35 [] H=some (.mp (H.length+1) 0,H ++ Z):=by
 have hf:=new_first H
 obtain ⟨Z,r,h,lp⟩:=new_loop H 10 1 [.map [] 0,.cells [.ms (H.length+3) 0 1 6 1 false,.mm H.length],.cells (trow (basicT 0)),.cells (trow (basicT 0))] 3 rfl (by omega) ⟨rfl,rfl,by simp [basicsT,cellsT,List.range_succ],by omega⟩
 have lp2:Brun tab 22 (.loop f35l3) (ofL [(1,.mp (H.length+1) 0),(2,.int .i64 1)]) (H ++ [.map [] 0,.cells [.is [] .nil,.mm H.length]])=some (.exit 0,ofL [(1,.mp (H.length+1) 0),(2,.int .i64 12),(7,.bool false)],H ++ Z):=by
  rw [Brun_loop,hf,bthen_normal]
  exact lp
 refine ⟨Z,r,h,?_⟩
 refine Ccall_over rfl rfl rfl rfl ?_
 clear h hf lp
 repeat (any_goals first|simp -dsimp (maxSteps:=4000000) (maxDischargeDepth:=8) -implicitDefEqProofs [*,-Int.not_le,-Int.not_lt,amLt,ap4,cellsOf]|with_reducible (first|apply cB|apply iB)<;>intro _|intro _)
def sts (st:List Int):List AV:=st.map fun n => .int .i64 n
theorem sts_len (st:List Int):(sts st).length=st.length:=by simp [sts]
theorem sts_get {st:List Int} {i:Nat} {v:Int} (h:st[i]?=some v):(sts st)[i]?=some (.int .i64 v):=by simp [sts,h]
theorem sts_set {st:List Int} {i:Nat} (hi:i<st.length) (v:Int):(sts st).take i ++ AV.int .i64 v :: (sts st).drop (i+1)=sts (st.set i v):=by
 rw [List.set_eq_take_append_cons_drop,if_pos hi]
 simp [sts]
structure WAt (H:Heap) (T R M cap:Nat) (ex:Bool) (rows:List TR) (S:Nat) (st:List Int):Prop where
 tab:TabAt H T R M cap ex rows
 s:∀ x,(H ++ x)[S]?=some (.cells (sts st))
 st:S≠T
 sr:S≠R
def Ext (H H':Heap) (S:Nat):Prop:=H.length≤H'.length∧∀ j,j<H.length→j≠S→H'[j]?=H[j]?
theorem Ext.refl (H:Heap) (S:Nat):Ext H H S:=⟨Nat.le_refl _,fun _ _ _=>rfl⟩
theorem Ext.trans {H H' H2:Heap} {S:Nat} (h:Ext H H' S) (h2:Ext H' H2 S):Ext H H2 S:=⟨Nat.le_trans h.1 h2.1,fun j hj hs=>by rw [h2.2 j (Nat.lt_of_lt_of_le hj h.1) hs,h.2 j hj hs]⟩
theorem Ext.set (H:Heap) (S:Nat) (b:Blk):Ext H (H.set S b) S:=⟨by simp,fun j _ hs=>by rw [List.getElem?_set_ne (fun e=>hs e.symm)]⟩
theorem Ext.app (H x:Heap) (S:Nat):Ext H (H ++ x) S:=⟨by simp,fun j hj _=>by rw [List.getElem?_append_left hj]⟩
section
variable {H H':Heap} {T R M cap S:Nat} {ex:Bool} {rows:List TR} {st:List Int}
theorem WAt.s0 (h:WAt H T R M cap ex rows S st):H[S]?=some (.cells (sts st)):=by simpa using h.s []
theorem WAt.lt (h:WAt H T R M cap ex rows S st):T<H.length∧R<H.length∧S<H.length :=
 ⟨(List.getElem?_eq_some_iff.1 h.tab.t0).1,(List.getElem?_eq_some_iff.1 h.tab.r0).1,(List.getElem?_eq_some_iff.1 h.s0).1⟩
theorem WAt.next (h:WAt H T R M cap ex rows S st) (he:Ext H H' S) {st':List Int} (hs:H'[S]?=some (.cells (sts st'))):WAt H' T R M cap ex rows S st':=by
 obtain ⟨h1,h2,h3⟩:=h.lt
 have g:∀ {j:Nat} {b:Blk},j<H.length→H'[j]?=some b→∀ x,(H' ++ x)[j]?=some b:=fun hj hb x=>by rw [List.getElem?_append_left (Nat.lt_of_lt_of_le hj he.1)];exact hb
 exact ⟨⟨g h1 (by rw [he.2 T h1 (fun e=>h.st e.symm)];exact h.tab.t0),g h2 (by rw [he.2 R h2 (fun e=>h.sr e.symm)];exact h.tab.r0)⟩,g h3 hs,h.st,h.sr⟩
theorem WAt.mark (h:WAt H T R M cap ex rows S st) (i:Nat) (v:Int) (x:Heap):WAt (H.set S (.cells (sts (st.set i v))) ++ x) T R M cap ex rows S (st.set i v):=by
 refine h.next ((Ext.set H S _).trans (Ext.app _ _ _)) ?_
 rw [List.getElem?_append_left (by rw [List.length_set];exact h.lt.2.2),List.getElem?_set]
 simp [h.lt.2.2]
end
def RecW (T R M cap S cs:Nat) (ex e2:Bool) (rows:List TR) (f:Nat):Prop:=∀ (id:Nat) (st:List Int) (b:Bool) (st':List Int) (H:Heap),WAt H T R M cap ex rows S st→withinS rows f id st=some (b,st')→id<rows.length→st.length=rows.length →
 ∃ H',Ccall tab 88 [.mp T 0,.int .i64 id,.ms S 0 rows.length 1 cs e2] H=some (.bool b,H')∧WAt H' T R M cap ex rows S st'∧Ext H H' S∧st'.length=rows.length
section
variable {T R M cap S cs:Nat} {ex e2:Bool} {rows:List TR} {f:Nat}
theorem within_body (hrec:RecW T R M cap S cs ex e2 rows f) (id:Nat) (l:List Mem) (c0:Cap) (hl:l.length≤16777216) (i:Nat) (m:Mem) (hi:l[i]?=some m) (hm0:0≤m.2.1) (hm1:m.2.1.toNat<rows.length) (H:Heap) (st st':List Int) (b:Bool) (h:WAt H T R M cap ex rows S st) (hst:st.length=rows.length) (hw:withinS rows f m.2.1.toNat st=some (b,st')) :
  ∃ H',WAt H' T R M cap ex rows S st'∧Ext H H' S∧st'.length=rows.length∧Brun tab 56 f88l11 (ofL [(0,.mp T 0),(1,.int .i64 id),(2,.ms S 0 rows.length 1 cs e2),(40,.is (memRows l) c0),(41,.int .i64 l.length),(42,.int .i64 i)]) H =
   if b=true then some (.normal,ofL [(0,.mp T 0),(1,.int .i64 id),(2,.ms S 0 rows.length 1 cs e2),(40,.is (memRows l) c0),(41,.int .i64 l.length),(42,.int .i64 (i+1))],H') else some (.ret,ofL [(6,.bool false)],H'):=by
 have h2:WAt (H ++ [.cells (memRow m)]) T R M cap ex rows S st:=h.next (Ext.app H _ S) (by rw [List.getElem?_append_left h.lt.2.2];exact h.s0)
 obtain ⟨H',hc,h3,h4,h5⟩:=hrec m.2.1.toNat st b st' _ h2 hw hm1 hst
 refine ⟨H',h3,(Ext.app H _ S).trans h4,h5,?_⟩
 have hlt:=(List.getElem?_eq_some_iff.1 hi).1
 have hrow:(memRows l)[i]?=some (memRow m):=by simp [memRows,hi]
 have e3:¬ (l.length:Int)≤i:=by omega
 have hwr:=cw64 i (by omega)
 have hml:=memRows_len l
 rw [show ((m.2.1.toNat:Nat):Int)=m.2.1 by omega] at hc
 unfold memRow at hc hrow
 obtain ⟨nm,ty,bits⟩:=m
 dsimp only at *
 clear hrec hl hi hm0 hm1 h hst hw h2 h3 h4 h5 hlt
 cases b
 ·repeat (any_goals first|simp -dsimp (maxSteps:=4000000) (maxDischargeDepth:=8) -implicitDefEqProofs [*,-Int.not_le,-Int.not_lt,amLt,ap4]|with_reducible (first|apply cB|apply iB)<;>intro _|intro _)
 ·repeat (any_goals first|simp -dsimp (maxSteps:=4000000) (maxDischargeDepth:=8) -implicitDefEqProofs [*,-Int.not_le,-Int.not_lt,amLt,ap4]|with_reducible (first|apply cB|apply iB)<;>intro _|intro _)
theorem within_loop (hrec:RecW T R M cap S cs ex e2 rows f) (id:Nat) (l:List Mem) (c0:Cap) (hl:l.length≤16777216) (hd:∀ m ∈ l,0≤m.2.1∧m.2.1.toNat<rows.length):∀ (r:List Mem) (i:Nat) (H:Heap) (st st':List Int) (b:Bool),l.drop i=r→i≤l.length→WAt H T R M cap ex rows S st→st.length=rows.length→withinL rows f (r.map (·.2.1)) st=some (b,st') →
  ∃ H',WAt H' T R M cap ex rows S st'∧Ext H H' S∧st'.length=rows.length∧Brun tab 56 (.loop f88l11) (ofL [(0,.mp T 0),(1,.int .i64 id),(2,.ms S 0 rows.length 1 cs e2),(40,.is (memRows l) c0),(41,.int .i64 l.length),(42,.int .i64 i)]) H =
   if b=true then some (.exit 1,ofL [(0,.mp T 0),(1,.int .i64 id),(2,.ms S 0 rows.length 1 cs e2),(40,.is (memRows l) c0),(41,.int .i64 l.length),(42,.int .i64 l.length),(43,.bool false)],H') else some (.ret,ofL [(6,.bool false)],H'):=by
 intro r
 induction r with
 | nil =>
  intro i H st st' b hr hi h hst hw
  have hlen:=congrArg List.length hr
  simp only [List.length_drop,List.length_nil] at hlen
  rw [List.map_nil,withinL] at hw
  cases hw
  refine ⟨H,h,Ext.refl H S,hst,?_⟩
  have e3:(l.length:Int)=i:=by omega
  rw [Brun_loop,if_pos rfl]
  clear hr hi hlen hl hd h hst hrec
  repeat (any_goals first|simp -dsimp (maxSteps:=4000000) (maxDischargeDepth:=8) -implicitDefEqProofs [*,-Int.not_le,-Int.not_lt,amLt]|with_reducible (first|apply cB|apply iB)<;>intro _|intro _)
 | cons m r ih =>
  intro i H st st' b hr hi h hst hw
  have hlen:=congrArg List.length hr
  simp only [List.length_drop,List.length_cons] at hlen
  have hg:l[i]?=some m:=by
   have:=congrArg (·[0]?) hr
   simpa using this
  have htl:l.drop (i+1)=r:=by
   have:=congrArg List.tail hr
   simpa using this
  obtain ⟨q1,q2⟩:=hd m (List.mem_of_getElem? hg)
  rw [List.map_cons,withinL] at hw
  cases hS:withinS rows f m.2.1.toNat st with
  | none=>rw [hS] at hw;cases hw
  | some p =>
   obtain ⟨b1,st1⟩:=p
   obtain ⟨H1,h1,h2,h3,h4⟩:=within_body hrec id l c0 hl i m hg q1 q2 H st st1 b1 h hst hS
   rw [hS] at hw
   cases b1 with
   | false =>
    cases hw
    refine ⟨H1,h1,h2,h3,?_⟩
    rw [if_neg (by simp)] at h4 ⊢
    rw [Brun_loop,h4,bthen_ret]
   | true =>
    dsimp only at hw
    obtain ⟨H2,g1,g2,g3,g4⟩:=ih (i+1) H1 st1 st' b htl (by omega) h1 h3 hw
    refine ⟨H2,g1,h2.trans g2,g3,?_⟩
    rw [if_pos rfl] at h4
    push_cast at g4
    rw [Brun_loop,h4,bthen_normal]
    exact g4
end
section
variable {T R M cap S cs:Nat} {ex e2:Bool} {rows:List TR}
def doneW (id:Nat):Option (Bool × List Int)→Option (Bool × List Int)
 | none=>none
 | some (false,s)=>some (false,s)
 | some (true,s)=>some (true,s.set id 2)
theorem within_step (hD:∀ r ∈ rows,r.mem.length≤16777216∧∀ d ∈ deps r,0≤d∧d.toNat<rows.length) {f:Nat} (hrec:RecW T R M cap S cs ex e2 rows f):RecW T R M cap S cs ex e2 rows (f+1):=by
 intro id st b st' H h hw hid hst
 have hlS:id<st.length:=by omega
 obtain ⟨v,hg⟩:∃ v,st[id]?=some v:=⟨_,List.getElem?_eq_getElem hlS⟩
 have hs0:=h.s0
 have hsg:=sts_get hg
 have hid':(id:Int)<rows.length:=by omega
 rw [withinS] at hw
 by_cases v1:st[id]?=some 1
 ·rw [if_pos v1] at hw
  cases hw
  refine ⟨H,?_,h,Ext.refl H S,hst⟩
  rw [hg] at v1
  replace v1:v=1:=by simpa using v1
  rw [v1] at hsg
  refine Ccall_over rfl rfl rfl rfl ?_
  clear hrec hD h hg hid v1 hlS hst
  repeat (any_goals first|simp -dsimp (maxSteps:=4000000) (maxDischargeDepth:=8) -implicitDefEqProofs [*,-Int.not_le,-Int.not_lt,amLt]|with_reducible (first|apply cB|apply iB)<;>intro _|intro _)
 ·rw [if_neg v1] at hw
  by_cases v2:st[id]?=some 2
  ·rw [if_pos v2] at hw
   cases hw
   refine ⟨H,?_,h,Ext.refl H S,hst⟩
   rw [hg] at v2
   replace v2:v=2:=by simpa using v2
   rw [v2] at hsg
   refine Ccall_over rfl rfl rfl rfl ?_
   clear hrec hD h hg hid v1 v2 hlS hst
   repeat (any_goals first|simp -dsimp (maxSteps:=4000000) (maxDischargeDepth:=8) -implicitDefEqProofs [*,-Int.not_le,-Int.not_lt,amLt]|with_reducible (first|apply cB|apply iB)<;>intro _|intro _)
  ·rw [if_neg v2,List.getElem?_eq_getElem hid] at hw
   dsimp only at hw
   rw [hg] at v1 v2
   have n1:¬ v=1:=by simpa using v1
   have n2:¬ v=2:=by simpa using v2
   have hw:doneW id (withinL rows f (deps rows[id]) (st.set id 1))=some (b,st'):=by
    cases hq:withinL rows f (deps rows[id]) (st.set id 1) with
    | none=>rw [hq] at hw;exact hw
    | some p=>obtain ⟨b0,s0⟩:=p;rw [hq] at hw;cases b0<;>exact hw
   have hrr:rows[id]?=some rows[id]:=List.getElem?_eq_getElem hid
   obtain ⟨hml,hdep⟩:=hD rows[id] (List.getElem_mem hid)
   generalize hrdef:rows[id]=r at *
   have hm1:=h.mark id 1
   have hset:=sts_set hlS 1
   have hsl:(st.set id 1).length=rows.length:=by rw [List.length_set];exact hst
   have hcl:=cells_len rows
   have hrow:=cells_row hrr
   have hle:id*6+6≤(cellsT rows).length:=by omega
   have hst0:=sts_len st
   have hm2:WAt (H.set S (.cells (sts (st.set id 1))) ++ [.cells (trow r)]) T R M cap ex rows S (st.set id 1):=hm1 _
   have hT1:=fun x=>(hm1 x).tab.t0
   have hR1:=fun x=>(hm1 x).tab.r0
   have hE2:Ext H (H.set S (.cells (sts (st.set id 1))) ++ [.cells (trow r)]) S:=(Ext.set H S _).trans (Ext.app _ _ _)
   have hX2:(H.set S (Blk.cells (sts (st.set id 1))) ++ [Blk.cells (trow r)])[H.length]?=some (Blk.cells (trow r)):=by
    rw [List.getElem?_append_right (by simp)];simp
   have hL2:H.length<(H.set S (Blk.cells (sts (st.set id 1))) ++ [Blk.cells (trow r)]).length:=by simp
   have hHS:H.length≠S:=by have:=h.lt.2.2;omega
   have hSl:=h.lt.2.2
   have harr:∃ (H3:Heap) (st1:List Int) (b1:Bool),WAt H3 T R M cap ex rows S st1∧Ext H H3 S∧st1.length=rows.length∧H3[H.length]?=some (.cells (trow r)) ∧
     ((r.kind=14∧Ccall tab 88 [.mp T 0,.int .i64 r.elem,.ms S 0 rows.length 1 cs e2] (H.set S (.cells (sts (st.set id 1))) ++ [.cells (trow r)])=some (.bool b1,H3))∨(r.kind≠14∧b1=true∧H3=H.set S (.cells (sts (st.set id 1))) ++ [.cells (trow r)])) ∧
     doneW id (if b1=true then withinL rows f (r.mem.map (·.2.1)) st1 else some (false,st1))=some (b,st'):=by
    by_cases k14:r.kind=14
    ·have hde:deps r=r.elem :: r.mem.map (·.2.1):=by unfold deps;rw [if_pos k14];rfl
     obtain ⟨d0,d1⟩:=hdep r.elem (by rw [hde];simp)
     rw [hde,withinL] at hw
     cases hS:withinS rows f r.elem.toNat (st.set id 1) with
     | none=>rw [hS] at hw;cases hw
     | some p =>
      obtain ⟨b1,st1⟩:=p
      obtain ⟨H3,c1,c2,c3,c4⟩:=hrec r.elem.toNat (st.set id 1) b1 st1 _ hm2 hS d1 hsl
      rw [show ((r.elem.toNat:Nat):Int)=r.elem by omega] at c1
      refine ⟨H3,st1,b1,c2,hE2.trans c3,c4,?_,.inl ⟨k14,c1⟩,?_⟩
      ·rw [c3.2 H.length hL2 hHS,hX2]
      ·rw [hS] at hw
       cases b1 with
       | false=>simpa using hw
       | true=>simpa using hw
    ·have hde:deps r=r.mem.map (·.2.1):=by unfold deps;rw [if_neg k14];rfl
     rw [hde] at hw
     exact ⟨_,st.set id 1,true,hm2,hE2,hsl,hX2,.inr ⟨k14,rfl,rfl⟩,by simpa using hw⟩
   obtain ⟨H3,st1,b1,w3,e3,l3,x3,hcall,hrest⟩:=harr
   have hid1:id+1≤rows.length:=hid
   have hlm:=memRows_len r.mem
   have hdm:∀ m ∈ r.mem,0≤m.2.1∧m.2.1.toNat<rows.length:=fun m hm=>hdep m.2.1 (by unfold deps;exact List.mem_append_right _ (List.mem_map.2 ⟨m,hm,rfl⟩))
   have hloop:=fun hb:b1=true=>fun st2 b2 hq=>within_loop hrec id r.mem r.cap hml hdm r.mem 0 H3 st1 st2 b2 rfl (Nat.zero_le _) w3 l3 hq
   clear hw
   unfold trow at hcall x3 hrow hT1 hR1
   obtain ⟨kind,elem,len,tag,mem,done,cp⟩:=r
   dsimp only at hcall x3 hrow hT1 hR1 hrest hloop hml hlm
   cases b1 with
   | false =>
    rw [if_neg (by simp)] at hrest
    cases hrest
    refine ⟨H3,?_,w3,e3,l3⟩
    rcases hcall with ⟨rfl,hc⟩|⟨_,hb,_⟩
    ·refine Ccall_over rfl rfl rfl rfl ?_
     generalize cellsT rows=ct at *
     clear hrec hD h hg hrr hrdef hm1 hm2 hE2 hX2 hL2 hHS w3 e3 l3 hdep hml hcl hsl v1 v2 hlS hid hSl x3 hloop hdm
     repeat (any_goals first|simp -dsimp (maxSteps:=4000000) (maxDischargeDepth:=8) -implicitDefEqProofs [*,-Int.not_le,-Int.not_lt,amLt,ap4]|with_reducible (first|apply cB|apply iB)<;>intro _|intro _)
    ·cases hb
   | true =>
    rw [if_pos rfl] at hrest
    cases hq:withinL rows f (mem.map (·.2.1)) st1 with
    | none=>rw [hq] at hrest;cases hrest
    | some p =>
     obtain ⟨b2,st2⟩:=p
     obtain ⟨H4,w4,e4,l4,lp⟩:=hloop rfl st2 b2 hq
     simp only [Int.natCast_zero] at lp
     rw [hq] at hrest
     cases b2 with
     | false =>
      cases hrest
      rw [if_neg (by simp)] at lp
      refine ⟨H4,?_,w4,e3.trans e4,l4⟩
      refine Ccall_over rfl rfl rfl rfl ?_
      generalize cellsT rows=ct at *
      clear hrec hD h hg hrr hrdef hm1 hm2 hE2 hX2 hL2 hHS w3 e3 l3 hdep hml hcl hsl v1 v2 hlS hid hSl hloop hdm w4 e4 l4 hq
      rcases hcall with ⟨rfl,hc⟩|⟨hk,_,rfl⟩
      ·repeat (any_goals first|simp -dsimp (maxSteps:=4000000) (maxDischargeDepth:=8) -implicitDefEqProofs [*,-Int.not_le,-Int.not_lt,amLt,ap4]|with_reducible (first|apply cB|apply iB)<;>intro _|intro _)
      ·repeat (any_goals first|simp -dsimp (maxSteps:=4000000) (maxDischargeDepth:=8) -implicitDefEqProofs [*,-Int.not_le,-Int.not_lt,amLt,ap4]|with_reducible (first|apply cB|apply iB)<;>intro _|intro _)
     | true =>
      cases hrest
      rw [if_pos rfl] at lp
      have hs4:=w4.s0
      have hl2:id<st2.length:=by omega
      have hset2:=sts_set hl2 2
      have hlt2:=sts_len st2
      refine ⟨H4.set S (.cells (sts (st2.set id 2))),?_,?_,e3.trans (e4.trans (Ext.set H4 S _)),by rw [List.length_set];exact l4⟩
      ·refine Ccall_over rfl rfl rfl rfl ?_
       have hl3:id+1≤(sts st2).length:=by omega
       generalize cellsT rows=ct at *
       clear hrec hD h hg hrr hrdef hm1 hm2 hE2 hX2 hL2 hHS w3 e3 l3 hdep hml hcl hsl v1 v2 hlS hid hSl hloop hdm w4 e4 l4 hq hl2 hlt2
       rcases hcall with ⟨rfl,hc⟩|⟨hk,_,rfl⟩
       ·repeat (any_goals first|simp -dsimp (maxSteps:=4000000) (maxDischargeDepth:=8) -implicitDefEqProofs [*,-Int.not_le,-Int.not_lt,amLt,ap4]|with_reducible (first|apply cB|apply iB)<;>intro _|intro _)
       ·repeat (any_goals first|simp -dsimp (maxSteps:=4000000) (maxDischargeDepth:=8) -implicitDefEqProofs [*,-Int.not_le,-Int.not_lt,amLt,ap4]|with_reducible (first|apply cB|apply iB)<;>intro _|intro _)
      ·have:=w4.mark id 2 []
       simpa using this
end
theorem rec_all {T R M cap S cs:Nat} {ex e2:Bool} {rows:List TR} (hD:∀ r ∈ rows,r.mem.length≤16777216∧∀ d ∈ deps r,0≤d∧d.toNat<rows.length):∀ f,RecW T R M cap S cs ex e2 rows f:=by
 intro f
 induction f with
 | zero=>intro id st b st' H _ hw;rw [withinS] at hw;cases hw
 | succ f ih=>exact within_step hD ih
end Go.Proofs.YtfhijkapcdmdnaaGreatDoor
