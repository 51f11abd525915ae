/- The abstract machine: what must hold ahead of code, so that something holds behind it. -/
import Derived.Test.YtlmgkbdcpaojlaaAmQ
namespace Go.AM

/-- Places and what lies there. -/
def ofL : List (Nat × AV) → Env
  | [], _ => .undef
  | (k, v) :: r, n => if n = k then v else ofL r n

theorem ofL_nil (n : Nat) : ofL [] n = .undef := rfl
theorem ofL_cons (k : Nat) (v : AV) (r : List (Nat × AV)) (n : Nat) : ofL ((k, v) :: r) n = if n = k then v else ofL r n := rfl

theorem prune_ofL (keep : List Nat) (e : Env) : prune keep e = ofL (keep.map fun k => (k, e k)) := by
  funext t
  unfold prune
  induction keep with
  | nil => rfl
  | cons k r ih =>
    simp only [List.map_cons, ofL_cons]
    by_cases h : t = k
    · subst h; simp
    · rw [if_neg h, ← ih]
      have : (k :: r).contains t = r.contains t := by simp [h]
      rw [this]

theorem args_ofL : ∀ (l : List AV) (k : Nat), (fun t => if t < k then AV.undef else l.getD (t - k) .undef) = ofL (l.zipIdx k |>.map fun p => (p.2, p.1)) := by
  intro l
  induction l with
  | nil => intro k; funext t; simp [ofL]
  | cons x r ih =>
    intro k
    funext t
    have := congrFun (ih (k + 1)) t
    simp only [List.zipIdx_cons, List.map_cons, ofL_cons]
    rw [← this]
    by_cases h : t = k
    · subst h; simp
    · rw [if_neg h]
      by_cases h1 : t < k
      · simp [h1, Nat.lt_succ_of_lt h1]
      · rw [if_neg h1, if_neg (by omega), show t - k = (t - (k + 1)) + 1 by omega, List.getD_cons_succ]

theorem args_env (l : List AV) : (fun t => l.getD t AV.undef) = ofL (l.zipIdx.map fun p => (p.2, p.1)) := by
  have := args_ofL l 0
  simpa using this

/-- A call, and what then. -/
def CallP (A : Tab) (g : Nat) (args : List AV) (h : Heap) (K : AV → Heap → List Nat → Prop) : Prop := ∃ v h' w, Acall A g args h = some (v, h', w) ∧ K v h' w

theorem CallP_of {A : Tab} {g : Nat} {args : List AV} {h h' : Heap} {v : AV} {w : List Nat} (hc : Acall A g args h = some (v, h', w)) (K : AV → Heap → List Nat → Prop) : CallP A g args h K = K v h' w := by
  apply propext
  constructor
  · rintro ⟨v1, h1, w1, hq, hk⟩
    rw [hc] at hq
    cases hq
    exact hk
  · exact fun hk => ⟨v, h', w, hc, hk⟩

def putP (nt : Nat) (e : Env) (d : Option Nat) (v : AV) (K : Env → Prop) : Prop :=
  match d with
  | none => K e
  | some d => d < nt ∧ K (upd e d v)

def runP (slot : Nat) (c : HC) (h : Heap) (K : AV → Heap → Prop) : Prop :=
  match c with
  | .fail => False
  | .done v => K v h
  | .rd id k => match h[id]? with
    | some b => match b with
      | .free => False
      | b => runP slot (k b) h K
    | none => False
  | .wr id b k => match h[id]? with
    | some b' => b'.isFree = false ∧ runP slot k (h.set id b) K
    | none => False
  | .new b k => h[slot]? = some .free ∧ runP slot k (h.set slot b) K

theorem runP_run {slot : Nat} : ∀ {c : HC} {h : Heap} {K : AV → Heap → Prop}, runP slot c h K → ∃ v h', c.run slot h = some (v, h') ∧ K v h' := by
  intro c
  induction c with
  | fail => intro h K hp; exact hp.elim
  | done v => intro h K hp; exact ⟨v, h, rfl, hp⟩
  | rd id k ih =>
    intro h K hp
    simp only [runP] at hp
    simp only [HC.run]
    split at hp
    · rename_i b hb
      split at hp
      · exact hp.elim
      · rename_i hne
        obtain ⟨v, h', h1, h2⟩ := ih _ hp
        rw [hb]
        have : b.isFree = false := by
          cases b with
          | free => exact (hne rfl).elim
          | _ => rfl
        simp only [this]
        exact ⟨v, h', h1, h2⟩
    · exact hp.elim
  | wr id b k ih =>
    intro h K hp
    simp only [runP] at hp
    simp only [HC.run]
    split at hp
    · rename_i b' hb
      obtain ⟨v, h', h1, h2⟩ := ih hp.2
      rw [hb]
      simp only [hp.1]
      exact ⟨v, h', h1, h2⟩
    · exact hp.elim
  | new b k ih =>
    intro h K hp
    simp only [runP] at hp
    obtain ⟨v, h', h1, h2⟩ := ih hp.2
    simp only [HC.run, hp.1, Blk.isFree]
    exact ⟨v, h', h1, h2⟩

section
variable (A : Tab) (nt : Nat)

def opP (base : Nat) (o : AOper) (e : Env) (h : Heap) (K : AV → Heap → Prop) : Prop :=
  match o.op with
  | .call f args => match ev e f with
    | .fn g caps => CallP A g (args.map (ev e) ++ caps) h fun v h' _ => K v h'
    | _ => False
  | op => runP (base + o.slot) (aop (base + o.slot) e op) h K

def wantB (v : AV) (want : Bool) (a b : Prop) : Prop :=
  match v with
  | .bool x => (x = want → a) ∧ (¬ x = want → b)
  | .tup [] => b
  | _ => False

def wantP (e : Env) : Option (Nat × Bool) → Prop → Prop → Prop
  | none, a, _ => a
  | some (t, want), a, b => wantB (e t) want a b

/-- Operations one by one, and what then. -/
def opsP (base : Nat) : List AOper → Env → Heap → (Env → Heap → Prop) → Prop
  | [], e, h, K => K e h
  | o :: r, e, h, K => wantP e o.guard
      (opP A base o e h fun v h' => putP nt e o.dst v fun e' => opsP base r e' h' K)
      (putP nt e o.dst (.tup []) fun e' => opsP base r e' h K)

variable {A nt}

theorem putP_put {e : Env} {d : Option Nat} {v : AV} {K : Env → Prop} (h : putP nt e d v K) : ∃ e', put nt e d v = some e' ∧ K e' := by
  unfold putP at h
  unfold put
  cases d with
  | none => exact ⟨e, rfl, h⟩
  | some d => exact ⟨_, by simp only [h.1, if_true], h.2⟩

theorem opP_run {base : Nat} {o : AOper} {e : Env} {h : Heap} {K : AV → Heap → Prop} (hp : opP A base o e h K) : ∃ v h' r, stepRun (Acall A) (isPure A) base o e h = some (v, h', r) ∧ K v h' := by
  by_cases ho : ∃ f args, o.op = .call f args
  · obtain ⟨f, args, ho⟩ := ho
    rw [stepRun_call ho]
    unfold opP at hp
    rw [ho] at hp
    dsimp only at hp
    split at hp
    · rename_i g caps hev
      obtain ⟨v, h', w, hc, hk⟩ := hp
      rw [hev]
      refine ⟨v, h', if isPure A g then .hc [] [] else .kc h.length w, ?_, hk⟩
      show (match Acall A g (args.map (ev e) ++ caps) h with
        | some (v, h', w) => some (v, h', if isPure A g then Rec.hc [] [] else .kc h.length w)
        | none => none) = _
      rw [hc]
    · exact hp.elim
  · have ho : ∀ f args, o.op ≠ .call f args := fun f args q => ho ⟨f, args, q⟩
    rw [stepRun_other ho]
    have hp' : runP (base + o.slot) (aop (base + o.slot) e o.op) h K := by
      obtain ⟨d, op, g, sl, dp⟩ := o
      cases op <;> first | exact hp | exact (ho _ _ rfl).elim
    obtain ⟨v, h', h1, h2⟩ := runP_run hp'
    simp only [h1]
    exact ⟨v, h', _, rfl, h2⟩

theorem opsP_run {base : Nat} : ∀ {l : List AOper} {e : Env} {h : Heap} {K : Env → Heap → Prop}, opsP A nt base l e h K → ∃ e' h' rs, asteps (Acall A) (isPure A) nt base l e h = some (e', h', rs) ∧ K e' h' := by
  intro l
  induction l with
  | nil => intro e h K hp; exact ⟨e, h, [], rfl, hp⟩
  | cons o t ih =>
    intro e h K hp
    simp only [opsP] at hp
    have key : ∃ e1 h1 r1, astep (Acall A) (isPure A) nt base o e h = some (e1, h1, r1) ∧ opsP A nt base t e1 h1 K := by
      unfold astep
      cases hg : o.guard with
      | none =>
        rw [hg] at hp
        simp only [wantP] at hp
        obtain ⟨v, h', r, h1, h2⟩ := opP_run hp
        obtain ⟨e', h3, h4⟩ := putP_put h2
        simp only [wanted, h1, h3, Option.map_some]
        exact ⟨e', h', r, rfl, h4⟩
      | some p =>
        obtain ⟨g, want⟩ := p
        rw [hg] at hp
        simp only [wantP, wantB] at hp
        split at hp
        · rename_i x hx
          simp only [wanted, hx]
          by_cases hq : x = want
          · have hp := hp.1 hq
            obtain ⟨v, h', r, h1, h2⟩ := opP_run hp
            obtain ⟨e', h3, h4⟩ := putP_put h2
            have : (x == want) = true := by simpa using hq
            simp only [this, h1, h3, Option.map_some]
            exact ⟨e', h', r, rfl, h4⟩
          · have hp := hp.2 hq
            obtain ⟨e', h3, h4⟩ := putP_put hp
            have : (x == want) = false := by simpa using hq
            simp only [this, h3, Option.map_some]
            exact ⟨e', h, .no, rfl, h4⟩
        · rename_i hx
          simp only [wanted, hx]
          obtain ⟨e', h3, h4⟩ := putP_put hp
          simp only [h3, Option.map_some]
          exact ⟨e', h, .no, rfl, h4⟩
        · exact hp.elim
    obtain ⟨e1, h1, r1, g1, g2⟩ := key
    obtain ⟨e', h', rs, g3, g4⟩ := ih g2
    simp only [asteps, g1, g3, Option.map_some]
    exact ⟨e', h', _, rfl, g4⟩

variable (A nt)

/-- Code, and what then: 'K' is told of no log. -/
def RunP (c : ACode) (e : Env) (h : Heap) (K : Ex → Env → Heap → Prop) : Prop := ∀ l, ∃ ex s', Arun A nt c ⟨e, h, l⟩ = some (ex, s') ∧ K ex s'.env s'.heap

variable {A nt}

theorem RunP.mono {c : ACode} {e : Env} {h : Heap} {K K' : Ex → Env → Heap → Prop} (hp : RunP A nt c e h K) (hk : ∀ ex e h, K ex e h → K' ex e h) : RunP A nt c e h K' := fun l => by
  obtain ⟨ex, s', h1, h2⟩ := hp l
  exact ⟨ex, s', h1, hk _ _ _ h2⟩

theorem RunP_skip {e : Env} {h : Heap} {K : Ex → Env → Heap → Prop} (hk : K .normal e h) : RunP A nt .skip e h K := fun _ => ⟨_, _, Arun_skip, hk⟩
theorem RunP_ret {e : Env} {h : Heap} {K : Ex → Env → Heap → Prop} (hk : K .ret e h) : RunP A nt .ret e h K := fun _ => ⟨_, _, Arun_ret, hk⟩
theorem RunP_exit {i : Nat} {e : Env} {h : Heap} {K : Ex → Env → Heap → Prop} (hk : K (.exit i) e h) : RunP A nt (.exit i) e h K := fun _ => ⟨_, _, Arun_exit, hk⟩

/-- A region in its own order. -/
theorem RunP_region {ops : List AOper} {keep : List Nat} {n : Nat} {e : Env} {h : Heap} {K : Ex → Env → Heap → Prop}
    (hp : opsP A nt h.length ops e (h ++ List.replicate n .free) fun e' h' => K .normal (ofL (keep.map fun k => (k, e' k))) h') : RunP A nt (.region false ops keep n) e h K := fun l => by
  obtain ⟨e', h', rs, h1, h2⟩ := opsP_run hp
  refine ⟨.normal, ⟨prune keep e', h', logOf rs l⟩, by rw [Arun_region]; unfold aregion; simp only [h1, Bool.not_false, Bool.true_or, if_true, Option.map_some], ?_⟩
  rw [prune_ofL]
  exact h2

/-- A region whose order is drawn. -/
theorem RunP_drawn {ops : List AOper} {keep : List Nat} {n : Nat} {e e' : Env} {h h' : Heap} {rs : List Rec} {K : Ex → Env → Heap → Prop}
    (hp : asteps (Acall A) (isPure A) nt h.length ops e (h ++ List.replicate n .free) = some (e', h', rs)) (hd : drawOK 0 (ops.zip rs) = true) (hk : K .normal (ofL (keep.map fun k => (k, e' k))) h') : RunP A nt (.region true ops keep n) e h K := fun l => by
  refine ⟨.normal, ⟨prune keep e', h', logOf rs l⟩, by rw [Arun_region]; unfold aregion; simp only [hp, hd, Bool.not_true, Bool.false_or, if_true, Option.map_some], ?_⟩
  rw [prune_ofL]
  exact hk

theorem zip_map_self {α β : Type} (f : α → β) : ∀ l : List α, l.zip (l.map f) = l.map fun k => (k, f k)
  | [] => rfl
  | x :: r => by simp [zip_map_self f r]

/-- A region in its own order, with what it ends in told ahead. -/
theorem RunP_to {ops : List AOper} {keep : List Nat} {n : Nat} {e : Env} {h : Heap} {K : Ex → Env → Heap → Prop} (L : List AV) (H : Heap)
    (hp : opsP A nt h.length ops e (h ++ List.replicate n .free) fun e' h' => (keep.map fun k => e' k) = L ∧ h' = H) (hk : K .normal (ofL (keep.zip L)) H) : RunP A nt (.region false ops keep n) e h K := fun l => by
  obtain ⟨e', h', rs, h1, rfl, rfl⟩ := opsP_run hp
  refine ⟨.normal, ⟨prune keep e', h', logOf rs l⟩, by rw [Arun_region]; unfold aregion; simp only [h1, Bool.not_false, Bool.true_or, if_true, Option.map_some], ?_⟩
  rw [prune_ofL]
  rw [zip_map_self] at hk
  exact hk

/-- A region whose order is drawn: it comes to what it comes to in its own order, if what is unordered gets in nothing's way. -/
theorem RunP_any {ops : List AOper} {keep : List Nat} {n : Nat} {e : Env} {h : Heap} {K : Ex → Env → Heap → Prop}
    (hp : match asteps (Acall A) (isPure A) nt h.length ops e (h ++ List.replicate n .free) with
      | some (e', h', rs) => drawOK 0 (ops.zip rs) = true ∧ K .normal (ofL (keep.map fun k => (k, e' k))) h'
      | none => False) : RunP A nt (.region true ops keep n) e h K := by
  split at hp
  · rename_i e' h' rs hs
    exact RunP_drawn hs hp.1 hp.2
  · exact hp.elim

def nextP (A : Tab) (nt : Nat) (b : ACode) (K : Ex → Env → Heap → Prop) : Ex → Env → Heap → Prop
  | .normal, e, h => RunP A nt b e h K
  | ex, e, h => K ex e h

/-- One operation, without what it touched. -/
noncomputable def stepF (A : Tab) (slot : Nat) (op : AOp) (e : Env) (h : Heap) : Option (AV × Heap) :=
  match op with
  | .call f args => match ev e f with
    | .fn g caps => match Acall A g (args.map (ev e) ++ caps) h with
      | some (v, h', _) => some (v, h')
      | none => none
    | _ => none
  | op => (aop slot e op).run slot h

noncomputable def stepsF (A : Tab) (nt base : Nat) : List AOper → Env → Heap → Option (Env × Heap)
  | [], e, h => some (e, h)
  | o :: r, e, h => match wanted e o.guard with
    | none => none
    | some false => match put nt e o.dst (.tup []) with
      | some e' => stepsF A nt base r e' h
      | none => none
    | some true => match stepF A (base + o.slot) o.op e h with
      | none => none
      | some (v, h') => match put nt e o.dst v with
        | some e' => stepsF A nt base r e' h'
        | none => none

theorem stepF_run {base : Nat} {o : AOper} {e : Env} {h h' : Heap} {v : AV} (hs : stepF A (base + o.slot) o.op e h = some (v, h')) : ∃ r, stepRun (Acall A) (isPure A) base o e h = some (v, h', r) := by
  by_cases ho : ∃ f args, o.op = .call f args
  · obtain ⟨f, args, ho⟩ := ho
    rw [stepRun_call ho]
    rw [ho] at hs
    simp only [stepF] at hs
    split at hs
    · rename_i g caps hev
      split at hs
      · rename_i w hc
        cases hs
        rw [hev]
        refine ⟨if isPure A g then .hc [] [] else .kc h.length w, ?_⟩
        show (match Acall A g (args.map (ev e) ++ caps) h with
          | some (v, h', w) => some (v, h', if isPure A g then Rec.hc [] [] else .kc h.length w)
          | none => none) = _
        rw [hc]
      · cases hs
    · cases hs
  · have ho : ∀ f args, o.op ≠ .call f args := fun f args q => ho ⟨f, args, q⟩
    rw [stepRun_other ho]
    have : stepF A (base + o.slot) o.op e h = (aop (base + o.slot) e o.op).run (base + o.slot) h := by
      generalize o.op = op at ho
      cases op <;> first | rfl | exact (ho _ _ rfl).elim
    rw [this] at hs
    rw [hs]
    exact ⟨_, rfl⟩

theorem stepsF_run {base : Nat} : ∀ {l : List AOper} {e e' : Env} {h h' : Heap}, stepsF A nt base l e h = some (e', h') → ∃ rs, asteps (Acall A) (isPure A) nt base l e h = some (e', h', rs) := by
  intro l
  induction l with
  | nil => intro e e' h h' hs; cases hs; exact ⟨[], rfl⟩
  | cons o t ih =>
    intro e e' h h' hs
    simp only [stepsF] at hs
    split at hs
    · cases hs
    · rename_i hw
      split at hs
      · rename_i e1 hp
        obtain ⟨rs, hr⟩ := ih hs
        exact ⟨_, by simp only [asteps, astep, hw, hp, hr, Option.map_some]; rfl⟩
      · cases hs
    · rename_i hw
      split at hs
      · cases hs
      · rename_i v h1 hst
        obtain ⟨r, hr1⟩ := stepF_run hst
        split at hs
        · rename_i e1 hp
          obtain ⟨rs, hr⟩ := ih hs
          exact ⟨_, by simp only [asteps, astep, hw, hp, hr1, hr, Option.map_some]; rfl⟩
        · cases hs

/-- What follows operations. -/
def thenP (r : Option (Env × Heap)) (K : Env → Heap → Prop) : Prop :=
  match r with
  | some (e, h) => K e h
  | none => False

/-- A region in its own order. -/
theorem RunP_ops {ops : List AOper} {keep : List Nat} {n : Nat} {e : Env} {h : Heap} {K : Ex → Env → Heap → Prop}
    (hp : thenP (stepsF A nt h.length ops e (h ++ List.replicate n .free)) fun e' h' => K .normal (ofL (keep.map fun k => (k, e' k))) h') : RunP A nt (.region false ops keep n) e h K := fun l => by
  unfold thenP at hp
  split at hp
  · rename_i e' h' hs
    obtain ⟨rs, h1⟩ := stepsF_run hs
    refine ⟨.normal, ⟨prune keep e', h', logOf rs l⟩, by rw [Arun_region]; unfold aregion; simp only [h1, Bool.not_false, Bool.true_or, if_true, Option.map_some], ?_⟩
    rw [prune_ofL]
    exact hp
  · exact hp.elim

/-- A region in its own order, told ahead what it comes to. -/
theorem RunP_told {ops : List AOper} {keep : List Nat} {n : Nat} {e : Env} {h : Heap} {K : Ex → Env → Heap → Prop} (L : List AV) (H : Heap)
    (hp : thenP (stepsF A nt h.length ops e (h ++ List.replicate n .free)) fun e' h' => (keep.map fun k => e' k) = L ∧ h' = H) (hk : K .normal (ofL (keep.zip L)) H) : RunP A nt (.region false ops keep n) e h K := by
  refine RunP_ops ?_
  unfold thenP at hp ⊢
  split at hp
  · rename_i e' h' hs
    obtain ⟨rfl, rfl⟩ := hp
    rw [zip_map_self] at hk
    exact hk
  · exact hp.elim

theorem RunP_seq {a b : ACode} {e : Env} {h : Heap} {K : Ex → Env → Heap → Prop} (hp : RunP A nt a e h (nextP A nt b K)) : RunP A nt (.seq a b) e h K := fun l => by
  obtain ⟨ex, s', h1, h2⟩ := hp l
  rw [Arun_seq, h1]
  cases ex with
  | normal =>
    obtain ⟨ex2, s2, g1, g2⟩ := h2 s'.log
    exact ⟨ex2, s2, g1, g2⟩
  | exit i => exact ⟨_, _, rfl, h2⟩
  | ret => exact ⟨_, _, rfl, h2⟩

theorem RunP_cond {c : AO} {a b : ACode} {e : Env} {h : Heap} {K : Ex → Env → Heap → Prop} {x : Bool} (hc : ev e c = .bool x) (ht : x = true → RunP A nt a e h K) (hf : x = false → RunP A nt b e h K) : RunP A nt (.cond c a b) e h K := fun l => by
  rw [Arun_cond]
  simp only [hc]
  cases x with
  | true => exact ht rfl l
  | false => exact hf rfl l

def blockP (id : Nat) (K : Ex → Env → Heap → Prop) : Ex → Env → Heap → Prop
  | .exit i, e, h => if i = id then K .normal e h else K (.exit i) e h
  | ex, e, h => K ex e h

theorem RunP_block {id : Nat} {b : ACode} {e : Env} {h : Heap} {K : Ex → Env → Heap → Prop} (hp : RunP A nt b e h (blockP id K)) : RunP A nt (.block id b) e h K := fun l => by
  obtain ⟨ex, s', h1, h2⟩ := hp l
  rw [Arun_block, h1]
  cases ex with
  | normal => exact ⟨_, _, rfl, h2⟩
  | ret => exact ⟨_, _, rfl, h2⟩
  | exit i =>
    simp only [blockP] at h2
    simp only [Option.map_some, unBlock]
    split at h2
    · rename_i q; rw [if_pos q]; exact ⟨_, _, rfl, h2⟩
    · rename_i q; rw [if_neg q]; exact ⟨_, _, rfl, h2⟩

/-- A loop: what holds ahead of each round, with what gets less. -/
theorem RunP_loop {b : ACode} {K : Ex → Env → Heap → Prop} {ι : Type} (I : ι → Env → Heap → Prop) (m : ι → Nat)
    (hb : ∀ i e h, I i e h → RunP A nt b e h fun ex e' h' => match ex with | .normal => ∃ j, m j < m i ∧ I j e' h' | ex => K ex e' h') :
    ∀ {i : ι} {e : Env} {h : Heap}, I i e h → RunP A nt (.loop b) e h K := by
  have key : ∀ n i e h, m i ≤ n → I i e h → RunP A nt (.loop b) e h K := by
    intro n
    induction n with
    | zero =>
      intro i e h hm hi l
      obtain ⟨ex, s', h1, h2⟩ := hb i e h hi l
      rw [Arun_loop, h1]
      cases ex with
      | normal => obtain ⟨j, hj, _⟩ := h2; omega
      | exit k => exact ⟨_, _, rfl, h2⟩
      | ret => exact ⟨_, _, rfl, h2⟩
    | succ n ih =>
      intro i e h hm hi l
      obtain ⟨ex, s', h1, h2⟩ := hb i e h hi l
      rw [Arun_loop, h1]
      cases ex with
      | normal =>
        obtain ⟨j, hj, hij⟩ := h2
        exact ih j _ _ (by omega) hij s'.log
      | exit k => exact ⟨_, _, rfl, h2⟩
      | ret => exact ⟨_, _, rfl, h2⟩
  intro i e h hi
  exact key _ _ _ _ (Nat.le_refl _) hi

/-- What behind a body is a call's answer. -/
def answerP (res : List ARes) (Q : AV → Heap → Prop) : Ex → Env → Heap → Prop
  | .exit _, _, _ => False
  | _, e, h => ∃ u, aresults e h res = some u ∧ Q u h

/-! ### For simp: what is stepped through, and in which order -/

theorem wantB_lit (x want : Bool) (a b : Prop) : wantB (.bool x) want a b = ((x = want → a) ∧ (¬ x = want → b)) := rfl
theorem wantB_tt (a b : Prop) : wantB (.bool true) true a b = a := by simp [wantB]
theorem wantB_ff (a b : Prop) : wantB (.bool false) false a b = a := by simp [wantB]
theorem wantB_tf (a b : Prop) : wantB (.bool true) false a b = b := by simp [wantB]
theorem wantB_ft (a b : Prop) : wantB (.bool false) true a b = b := by simp [wantB]
theorem wantB_congr {v v' : AV} (h : v = v') (want : Bool) (a b : Prop) : wantB v want a b = wantB v' want a b := by rw [h]
theorem runP_congr {c c' : HC} (h : c = c') (slot : Nat) (m : Heap) (K : AV → Heap → Prop) : runP slot c m K = runP slot c' m K := by rw [h]
theorem runP_done (slot : Nat) (v : AV) (h : Heap) (K : AV → Heap → Prop) : runP slot (.done v) h K = K v h := rfl

/-- Looking at one block. -/
def blkP (b : Option Blk) (K : Blk → Prop) : Prop :=
  match b with
  | some .free => False
  | some b => K b
  | none => False
theorem blkP_congr {b b' : Option Blk} (h : b = b') (K : Blk → Prop) : blkP b K = blkP b' K := by rw [h]
theorem blkP_cells (cs : List AV) (K : Blk → Prop) : blkP (some (.cells cs)) K = K (.cells cs) := rfl
theorem blkP_map (es : List (AV × AV × Nat)) (c : Nat) (K : Blk → Prop) : blkP (some (.map es c)) K = K (.map es c) := rfl
theorem runP_rd (slot id : Nat) (k : Blk → HC) (h : Heap) (K : AV → Heap → Prop) : runP slot (.rd id k) h K = blkP h[id]? fun b => runP slot (k b) h K := by
  simp only [runP]
  cases h[id]? with
  | none => rfl
  | some b => cases b <;> rfl
/-- Writing one block: what lies there may be written. -/
def hasP (b : Option Blk) (K : Prop) : Prop :=
  match b with
  | some b => b.isFree = false ∧ K
  | none => False
theorem hasP_congr {b b' : Option Blk} (h : b = b') (K : Prop) : hasP b K = hasP b' K := by rw [h]
theorem hasP_cells (cs : List AV) (K : Prop) : hasP (some (.cells cs)) K = K := by simp [hasP, Blk.isFree]
theorem runP_wr (slot id : Nat) (b : Blk) (k : HC) (h : Heap) (K : AV → Heap → Prop) : runP slot (.wr id b k) h K = hasP h[id]? (runP slot k (h.set id b) K) := rfl
def freeP (b : Option Blk) (K : Prop) : Prop := b = some .free ∧ K
theorem opsP_nil (A : Tab) (nt base : Nat) (e : Env) (h : Heap) (K : Env → Heap → Prop) : opsP A nt base [] e h K = K e h := rfl
theorem opsP_cons (A : Tab) (nt base : Nat) (d : Option Nat) (op : AOp) (g : Option (Nat × Bool)) (sl dp : Nat) (r : List AOper) (e : Env) (h : Heap) (K : Env → Heap → Prop) :
    opsP A nt base (⟨d, op, g, sl, dp⟩ :: r) e h K = wantP e g (opP A base ⟨d, op, g, sl, dp⟩ e h fun v h' => putP nt e d v fun e' => opsP A nt base r e' h' K) (putP nt e d (.tup []) fun e' => opsP A nt base r e' h K) := rfl
theorem opsP_congr (A : Tab) (nt base : Nat) (l : List AOper) (e : Env) (h : Heap) (K : Env → Heap → Prop) : opsP A nt base l e h K = opsP A nt base l e h K := rfl
theorem opP_congr (A : Tab) (base : Nat) (o : AOper) (e : Env) (h : Heap) (K : AV → Heap → Prop) : opP A base o e h K = opP A base o e h K := rfl
theorem RunP_congr (A : Tab) (nt : Nat) (c : ACode) (e : Env) (h : Heap) (K : Ex → Env → Heap → Prop) : RunP A nt c e h K = RunP A nt c e h K := rfl
theorem putP_congr {v v' : AV} (h : v = v') (nt : Nat) (e : Env) (d : Option Nat) (K : Env → Prop) : putP nt e d v K = putP nt e d v' K := by rw [h]
theorem putP_some (nt : Nat) (e : Env) (d : Nat) (v : AV) (K : Env → Prop) : putP nt e (some d) v K = (d < nt ∧ K (upd e d v)) := rfl
theorem putP_none (nt : Nat) (e : Env) (v : AV) (K : Env → Prop) : putP nt e none v K = K e := rfl
theorem wantP_none (e : Env) (a b : Prop) : wantP e none a b = a := rfl
theorem wantP_some (e : Env) (t : Nat) (want : Bool) (a b : Prop) : wantP e (some (t, want)) a b = wantB (e t) want a b := rfl
theorem wantP_congr (e : Env) (g : Option (Nat × Bool)) (a b : Prop) : wantP e g a b = wantP e g a b := rfl
theorem upd_apply (e : Env) (d : Nat) (v : AV) (n : Nat) : upd e d v n = if n = d then v else e n := rfl
theorem upd_congr (e : Env) (d : Nat) (v : AV) {n n' : Nat} (h : n = n') : upd e d v n = upd e d v n' := by rw [h]
theorem freeP_congr {b b' : Option Blk} (h : b = b') (K : Prop) : freeP b K = freeP b' K := by rw [h]
theorem freeP_free (K : Prop) : freeP (some .free) K = K := by simp [freeP]
theorem runP_new (slot : Nat) (b : Blk) (k : HC) (h : Heap) (K : AV → Heap → Prop) : runP slot (.new b k) h K = freeP h[slot]? (runP slot k (h.set slot b) K) := rfl

/-- A call over memory of its own. -/
theorem Acall_own {g np nt mode : Nat} {res : List ARes} {c : ACode} {args : List AV} {h : Heap} {v : AV} (hf : A g = some ⟨np, nt, res, c, mode⟩) (hp : (mode != 0) = true) (hn : args.length = np) (hi : imm.immL args = true)
    (hb : RunP A nt c (ofL (args.zipIdx.map fun p => (p.2, p.1))) [] (answerP res fun u h' => Areify h' u = some v)) :
    Acall A g args h = some (v, h, []) := by
  obtain ⟨ex, s', h1, h2⟩ := hb []
  have : ∃ u, Abody A ⟨np, nt, res, c, mode⟩ args [] = some (u, s'.heap, s'.log) ∧ Areify s'.heap u = some v := by
    unfold Abody
    simp only [args_env, h1]
    cases ex with
    | exit i => exact h2.elim
    | normal => obtain ⟨u, h3, h4⟩ := h2; exact ⟨u, by simp only [h3, Option.map_some], h4⟩
    | ret => obtain ⟨u, h3, h4⟩ := h2; exact ⟨u, by simp only [h3, Option.map_some], h4⟩
  obtain ⟨u, h3, h4⟩ := this
  exact Acall_pure hf hp hn hi h3 h4

/-- A call over its caller's memory. -/
theorem Acall_with {g np nt mode : Nat} {res : List ARes} {c : ACode} {args : List AV} {h : Heap} {Q : AV → Heap → Prop} (hf : A g = some ⟨np, nt, res, c, mode⟩) (hp : (mode != 0 && imm.immL args) = false) (hp2 : (mode == 2) = false) (hn : args.length = np)
    (hb : RunP A nt c (ofL (args.zipIdx.map fun p => (p.2, p.1))) h (answerP res Q)) :
    ∃ v h' w, Acall A g args h = some (v, h', w) ∧ Q v h' := by
  obtain ⟨ex, s', h1, h2⟩ := hb []
  have : ∃ u, Abody A ⟨np, nt, res, c, mode⟩ args h = some (u, s'.heap, s'.log) ∧ Q u s'.heap := by
    unfold Abody
    simp only [args_env, h1]
    cases ex with
    | exit i => exact h2.elim
    | normal => obtain ⟨u, h3, h4⟩ := h2; exact ⟨u, by simp only [h3, Option.map_some], h4⟩
    | ret => obtain ⟨u, h3, h4⟩ := h2; exact ⟨u, by simp only [h3, Option.map_some], h4⟩
  obtain ⟨u, h3, h4⟩ := this
  exact ⟨u, s'.heap, _, Acall_over hf hp hp2 hn h3, h4⟩

end

/-! ### Values by themselves, of a few kinds -/

theorem Areify_int {h : Heap} {k : IntKind} {n : Int} : Areify h (.int k n) = some (.int k n) := Areify_iff.2 ⟨1, rfl⟩
theorem Areify_bool {h : Heap} {b : Bool} : Areify h (.bool b) = some (.bool b) := Areify_iff.2 ⟨1, rfl⟩
theorem Areify_str {h : Heap} {s : List UInt8} : Areify h (.str s) = some (.str s) := Areify_iff.2 ⟨1, rfl⟩
theorem Areify_nils {h : Heap} : Areify h .nils = some .nils := Areify_iff.2 ⟨1, rfl⟩
theorem Areify_is {h : Heap} {sz : Nat} {rows : List (List AV)} {f : Bool} : Areify h (.is sz rows f) = some (.is sz rows f) := Areify_iff.2 ⟨1, rfl⟩
theorem Areify_nilp {h : Heap} : Areify h .nilp = some .nilp := Areify_iff.2 ⟨1, rfl⟩
theorem Areify_undef {h : Heap} : Areify h .undef = some .undef := Areify_iff.2 ⟨1, rfl⟩

/-- A row of values, each by itself. -/
noncomputable def AreifyL (h : Heap) : List AV → Option (List AV)
  | [] => some []
  | x :: r => match Areify h x with
    | some y => match AreifyL h r with
      | some l => some (y :: l)
      | none => none
    | none => none

theorem AreifyL_iff {h : Heap} : ∀ {l m : List AV}, AreifyL h l = some m ↔ ∃ k, l.mapM (reify h k) = some m := by
  intro l
  induction l with
  | nil => intro m; simp [AreifyL]
  | cons x r ih =>
    intro m
    simp only [AreifyL, List.mapM_cons, Option.bind_eq_bind, Option.bind_eq_some_iff, Option.pure_def, Option.some.injEq]
    constructor
    · intro hm
      split at hm
      · rename_i y hy
        split at hm
        · rename_i l hl
          cases hm
          obtain ⟨k1, g1⟩ := Areify_iff.1 hy
          obtain ⟨k2, g2⟩ := ih.1 hl
          exact ⟨max k1 k2, y, reify_mono (Nat.le_max_left _ _) g1, l, mapM_mono (fun x y hxy => reify_mono (Nat.le_max_right k1 k2) hxy) g2, rfl⟩
        · cases hm
      · cases hm
    · rintro ⟨k, y, hy, l, hl, rfl⟩
      rw [Areify_iff.2 ⟨k, hy⟩, ih.2 ⟨k, hl⟩]

theorem Areify_agg {h : Heap} {cs : List AV} : Areify h (.agg cs) = (AreifyL h cs).map .agg := by
  apply Option.ext
  intro r
  simp only [Areify_iff, Option.map_eq_some_iff, AreifyL_iff]
  constructor
  · rintro ⟨k, hk⟩
    match k, hk with
    | k + 1, hk =>
      simp only [reify, Option.map_eq_some_iff] at hk
      obtain ⟨l, hl, rfl⟩ := hk
      exact ⟨l, ⟨k, hl⟩, rfl⟩
  · rintro ⟨l, ⟨k, hk⟩, rfl⟩
    exact ⟨k + 1, by simp only [reify, hk, Option.map_some]⟩

theorem Areify_tup {h : Heap} {cs : List AV} : Areify h (.tup cs) = (AreifyL h cs).map .tup := by
  apply Option.ext
  intro r
  simp only [Areify_iff, Option.map_eq_some_iff, AreifyL_iff]
  constructor
  · rintro ⟨k, hk⟩
    match k, hk with
    | k + 1, hk =>
      simp only [reify, Option.map_eq_some_iff] at hk
      obtain ⟨l, hl, rfl⟩ := hk
      exact ⟨l, ⟨k, hl⟩, rfl⟩
  · rintro ⟨l, ⟨k, hk⟩, rfl⟩
    exact ⟨k + 1, by simp only [reify, hk, Option.map_some]⟩

/-- A slice of the run's own, by itself. -/
theorem Areify_ms {h : Heap} {id off len sz cap : Nat} {ex : Bool} {cs l : List AV} (hb : h[id]? = some (.cells cs)) (hl : off + len * sz ≤ cs.length) (hr : AreifyL h ((cs.drop off).take (len * sz)) = some l) :
    Areify h (.ms id off len sz cap ex) = some (.is sz (chunk sz len l) (ex && cap == len)) := by
  obtain ⟨k, hk⟩ := AreifyL_iff.1 hr
  refine Areify_iff.2 ⟨k + 1, ?_⟩
  simp only [reify, hb, if_pos hl, hk, Option.map_some]

end Go.AM
