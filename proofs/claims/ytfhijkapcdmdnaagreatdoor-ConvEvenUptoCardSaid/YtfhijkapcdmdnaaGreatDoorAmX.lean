/- The abstract machine: functions of the library, told by the shelf's contracts. -/
import Derived.Test.YtfhijkapcdmdnaaGreatDoorAmV
import Derived.Lib.Bytealg
import Derived.Shelf.Strings.OnBuilder
import Derived.Shelf.Strings.Search3
import Derived.Shelf.Strings.SlTrimAscii
import Derived.Shelf.Strconv.Itoa3
namespace Go.AM
open Go.RowKit Go.Shelf Go.Lib Go.Sort
section
variable {P : Program} {G : GTab} {g : Nat}
theorem below_grow (w : World) (q : Nat) (os : Array Obj) : RowKit.Below w.heap.size w (grow (w.drewN q) os) :=
 ⟨rfl, rfl, rfl, by first | (simp [grow]; done) | (simp [grow]; omega), fun i hi => by
  show ((w.drewN q).heap ++ os)[i]? = _
  rw [Array.getElem?_append_left (by show i < w.heap.size; omega)]
  rfl⟩
theorem IR.str_inv {w : World} {im : Imm} {s : List UInt8} {v : Value} (h : IR w im (.str s) v) : v = .string ⟨s.toArray⟩ := by cases h; rfl
theorem IR.int_inv {w : World} {im : Imm} {k : IntKind} {n : Int} {v : Value} (h : IR w im (.int k n) v) : v = .int k n := by cases h; rfl
theorem IR.str_mk {w : World} {im : Imm} (s : List UInt8) : IR w im (.str s) (.string ⟨s.toArray⟩) := .str s
theorem spec_below {F : List AV → Option AV} (h : ∀ args v, F args = some v → ∀ (w : World) (im : Imm) (rargs : Array Value), GOK G w im → rargs.size = args.length → (∀ (i : Nat) x, args[i]? = some x → IR w im x (rargs.getD i Go.undef)) →
  Enters P g ∧ ∃ rv, (∀ w' im', IR w' im' v rv) ∧ Calls P g rargs w fun e w' => e = .returned rv ∧ RowKit.Below w.heap.size w w') : SpecOK P G g F := by
 intro args v hF w im rargs hg hn hr
 obtain ⟨h1, rv, h2, h3⟩ := h args v hF w im rargs hg hn hr
 refine ⟨h1, h3.mono ?_⟩
 rintro e w' ⟨rfl, hb⟩
 exact ⟨rv, im, rfl, h2 _ _, hb, fun _ _ q => q, fun _ _ q => .inl q⟩
def libIndex : List AV → Option AV
 | [.str s, .str t] => if s.length < 4294967281 then some (.int .i64 (Go.Lib.index s t)) else none
 | _ => none
theorem spec_index (hE : Enters P g) {y : Nat} (hy : y ∈ G.ints) (hc : ∀ (s sub : ByteArray) (m : Int) (w : World), s.size < 4294967281 → w.cell? ⟨y, 0, none⟩ = some (.int .i64 m) →
  Calls P g #[.string s, .string sub] w fun e w' => e = .returned (.int .i64 (Go.Lib.index s.data.toList sub.data.toList)) ∧ w' = w) : SpecOK P G g libIndex := by
 refine spec_below fun args v hF w im rargs hg hn hr => ?_
 unfold libIndex at hF
 split at hF
 ·rename_i s t
  split at hF
  ·rename_i hlen
   cases hF
   have e0 := (hr 0 _ rfl).str_inv
   have e1 := (hr 1 _ rfl).str_inv
   rw [arrOf2 (l := rargs) hn, e0, e1]
   obtain ⟨_, m, hm⟩ := hg.2 y hy
   refine ⟨hE, _, fun w' im' => .int _ _, (hc ⟨s.toArray⟩ ⟨t.toArray⟩ m w (by simpa [ByteArray.size] using hlen) hm).mono ?_⟩
   rintro e w' ⟨rfl, rfl⟩
   exact ⟨rfl, .refl _ _⟩
  ·cases hF
 ·cases hF
def ascii (c : List UInt8) : Bool := c.all fun b => decide (b.toNat < 128)
def libTrimRight : List AV → Option AV
 | [.str s, .str c] => if s.length ≤ 9223372036854775807 ∧ c.length < 4294967281 ∧ ascii c = true then some (.str (Go.Lib.trimRightS s c)) else none
 | _ => none
theorem spec_trimRight (hE : Enters P g) (hc : ∀ (s c : ByteArray) (w : World), s.size ≤ 9223372036854775807 → c.size < 4294967281 → (∀ (j : Nat) b, c.data.toList[j]? = some b → b.toNat < 128) →
  Calls P g #[.string s, .string c] w fun e w' => e = .returned (.string ⟨(Go.Lib.trimRightS s.data.toList c.data.toList).toArray⟩) ∧ RowKit.Below w.heap.size w w') : SpecOK P G g libTrimRight := by
 refine spec_below fun args v hF w im rargs hg hn hr => ?_
 unfold libTrimRight at hF
 split at hF
 ·rename_i s c
  split at hF
  ·rename_i hlen
   cases hF
   have e0 := (hr 0 _ rfl).str_inv
   have e1 := (hr 1 _ rfl).str_inv
   rw [arrOf2 (l := rargs) hn, e0, e1]
   exact ⟨hE, _, fun w' im' => .str _, hc ⟨s.toArray⟩ ⟨c.toArray⟩ w (by simpa [ByteArray.size] using hlen.1) (by simpa [ByteArray.size] using hlen.2.1) (fun j b hb => by
    have := List.all_eq_true.1 hlen.2.2 b (List.mem_of_getElem? (by simpa using hb))
    simpa using this)⟩
  ·cases hF
 ·cases hF
def libTrim : List AV → Option AV
 | [.str s, .str c] => if s.length ≤ 9223372036854775807 ∧ c.length < 4294967281 ∧ ascii c = true then some (.str (Go.Lib.trimS s c)) else none
 | _ => none
theorem spec_trim (hE : Enters P g) (hc : ∀ (s c : ByteArray) (w : World), s.size ≤ 9223372036854775807 → c.size < 4294967281 → (∀ (j : Nat) b, c.data.toList[j]? = some b → b.toNat < 128) →
  Calls P g #[.string s, .string c] w fun e w' => e = .returned (.string ⟨(Go.Lib.trimS s.data.toList c.data.toList).toArray⟩) ∧ RowKit.Below w.heap.size w w') : SpecOK P G g libTrim := by
 refine spec_below fun args v hF w im rargs hg hn hr => ?_
 unfold libTrim at hF
 split at hF
 ·rename_i s c
  split at hF
  ·rename_i hlen
   cases hF
   have e0 := (hr 0 _ rfl).str_inv
   have e1 := (hr 1 _ rfl).str_inv
   rw [arrOf2 (l := rargs) hn, e0, e1]
   exact ⟨hE, _, fun w' im' => .str _, hc ⟨s.toArray⟩ ⟨c.toArray⟩ w (by simpa [ByteArray.size] using hlen.1) (by simpa [ByteArray.size] using hlen.2.1) (fun j b hb => by
    have := List.all_eq_true.1 hlen.2.2 b (List.mem_of_getElem? (by simpa using hb))
    simpa using this)⟩
  ·cases hF
 ·cases hF
def libItoa : List AV → Option AV
 | [.int .i64 n] => if -9223372036854775808 ≤ n ∧ n ≤ 9223372036854775807 then some (.str (Go.Lib.itoa n)) else none
 | _ => none
theorem tabIs_of {w : World} {im : Imm} (hg : GOK G w im) {y : Nat} {nm : String} {k : IntKind} {zs : List Int} (hn : P.globalNamed nm = some y) (hy : G.gl y = some (zs.map fun z => .int k z)) : Go.Lib.TabIs P w nm k zs := by
 obtain ⟨h1, e, h2⟩ := hg.1 y _ hy
 unfold Go.Lib.TabIs World.var?
 rw [hn]
 simp only [Option.bind_some]
 unfold World.shape? at h2
 split at h2
 ·rename_i c el fz hq
  rw [hq]
  simp only [Option.some.injEq, Prod.mk.injEq] at h2
  obtain ⟨_, hs⟩ := h2
  show some c = _
  congr 1
  cases h1 with
  | ip _ _ b o vs ho hi hc hr =>
   apply Array.ext
   ·simpa using hs
   ·intro i h3 h4
    have hz : i < zs.length := by simpa using h4
    have hx : (zs.map fun z => AV.int k z)[i]? = some (.int k zs[i]) := by simp [hz]
    have c1 := hc i _ hx
    have c2 := (hr i _ hx).int_inv
    rw [c2] at c1
    unfold World.cell? at c1
    simp only [Nat.sub_self, Nat.zero_add] at c1
    rw [hq] at c1
    simp only [Option.isSome_none, Bool.false_eq_true, if_false] at c1
    have := Array.getElem?_eq_getElem h3
    rw [this] at c1
    simpa using Option.some.inj c1
 ·cases h2
theorem spec_itoa (hE : Enters P g) {y : Nat} (hn : P.globalNamed "internal/strconv.uint64pow10" = some y) (hy : G.gl y = some (Go.Lib.pow10Tab.map fun z => .int .u64 z)) (hc : ∀ (n : Int), -9223372036854775808 ≤ n → n ≤ 9223372036854775807 → ∀ (w : World), Go.Lib.TabIs P w "internal/strconv.uint64pow10" .u64 Go.Lib.pow10Tab →
  Calls P g #[.int .i64 n] w fun e w' => e = .returned (.string ⟨(Go.Lib.itoa n).toArray⟩) ∧ ∃ k os, w' = grow (w.drewN k) os) : SpecOK P G g libItoa := by
 refine spec_below fun args v hF w im rargs hg hn' hr => ?_
 unfold libItoa at hF
 split at hF
 ·rename_i n
  split at hF
  ·rename_i hlen
   cases hF
   have e0 := (hr 0 _ rfl).int_inv
   rw [arrOf1 (l := rargs) hn', e0]
   refine ⟨hE, _, fun w' im' => .str _, (hc n hlen.1 hlen.2 w (tabIs_of hg hn hy)).mono ?_⟩
   rintro e w' ⟨rfl, q, os, rfl⟩
   exact ⟨rfl, below_grow w q os⟩
  ·cases hF
 ·cases hF
def strRows : List (List AV) → Option (List (List UInt8))
 | [] => some []
 | [.str s] :: r => (strRows r).map (s :: ·)
 | _ => none
def libJoin : List AV → Option AV
 | [.is rows _, .str sep] => match strRows rows with
  | some xs => if xs.length ≤ 140737488355328 ∧ (Go.Lib.join xs sep).length ≤ 140737488355328 then some (.str (Go.Lib.join xs sep)) else none
  | none => none
 | _ => none
theorem strRows_spec : ∀ {rows : List (List AV)} {xs : List (List UInt8)}, strRows rows = some xs → rows = xs.map fun s => [.str s] := by
 intro rows
 induction rows with
 | nil => intro xs h; cases h; rfl
 | cons r t ih =>
  intro xs h
  unfold strRows at h
  split at h
  ·rename_i q; cases q
  ·rename_i s r' q
   cases q
   simp only [Option.map_eq_some_iff] at h
   obtain ⟨ys, hy, rfl⟩ := h
   simp [ih hy]
  ·cases h
theorem spec_join (hE : Enters P g) (h0 : ∀ (a : Option Addr) (c : Nat) (sep : ByteArray) (w : World), Calls P g #[.slice a 0 c, .string sep] w fun e w' => e = .returned (.string ⟨#[]⟩) ∧ w' = w)
  (hc : ∀ (bk o c : Nat) (xs : List ByteArray) (sep : ByteArray) (w : World), (∀ (j : Nat) x, xs[j]? = some x → w.cell? ⟨bk, o + j, none⟩ = some (.string x)) → bk < w.heap.size → xs.length ≤ 140737488355328 → xs.length ≤ c →
   (Go.Lib.join (xs.map (·.data.toList)) sep.data.toList).length ≤ 140737488355328 →
   Calls P g #[.slice (some ⟨bk, o, none⟩) xs.length c, .string sep] w fun e w' => e = .returned (.string ⟨(Go.Lib.join (xs.map (·.data.toList)) sep.data.toList).toArray⟩) ∧ RowKit.Below w.heap.size w w') : SpecOK P G g libJoin := by
 refine spec_below fun args v hF w im rargs hg hn hr => ?_
 unfold libJoin at hF
 split at hF
 ·rename_i rows cap sep
  split at hF
  ·rename_i xs hxs
   split at hF
   ·rename_i hlen
    cases hF
    have e0 := hr 0 _ rfl
    have e1 := (hr 1 _ rfl).str_inv
    rw [arrOf2 (l := rargs) hn, e1]
    have hrows := strRows_spec hxs
    generalize rargs.getD 0 Go.undef = v0 at e0 ⊢
    refine ⟨hE, .string ⟨(Go.Lib.join xs sep).toArray⟩, fun w' im' => .str _, ?_⟩
    cases e0 with
    | is _ _ base b o sz rcap vs hb ht hz hl hi hcc hrr =>
     by_cases hx : xs = []
     ·subst hx
      subst hrows
      refine (h0 base rcap ⟨sep.toArray⟩ w).mono ?_
      rintro e w' ⟨rfl, rfl⟩
      exact ⟨rfl, .refl _ _⟩
     ·have hlr : rows.length = xs.length := by rw [hrows]; simp
      have hpos : 0 < xs.length := List.length_pos_iff.2 hx
      have hsz : sz = 1 := by
       obtain ⟨x, hx0⟩ := List.exists_mem_of_length_pos hpos
       have := hz [.str x] (by rw [hrows]; exact List.mem_map.2 ⟨x, hx0, rfl⟩)
       simpa using this.symm
      subst hsz
      have hcell : ∀ (j : Nat) x, xs[j]? = some x → w.cell? ⟨b, o + j, none⟩ = some (.string ⟨x.toArray⟩) := fun j x hj => by
       have h1 : rows[j]? = some [.str x] := by rw [hrows]; simp [hj]
       have c1 := hcc j _ 0 _ h1 rfl
       have c2 := (hrr j _ 0 _ h1 rfl).str_inv
       rw [c2] at c1
       simpa using c1
      have hlt : b < w.heap.size := by
       have := hcell 0 xs[0] (List.getElem?_eq_getElem hpos)
       unfold World.cell? at this
       split at this
       ·rename_i q; exact (Array.getElem?_eq_some_iff.1 q).1
       ·cases this
      have hbase := hb (by omega)
      subst hbase
      have hmap : (xs.map fun x => (⟨x.toArray⟩ : ByteArray)).map (·.data.toList) = xs := by
       rw [List.map_map]
       conv => rhs; rw [← List.map_id xs]
       apply List.map_congr_left
       intro x _
       simp
      have := hc b o rcap (xs.map fun x => ⟨x.toArray⟩) ⟨sep.toArray⟩ w (fun j x hj => by
       simp only [List.getElem?_map, Option.map_eq_some_iff] at hj
       obtain ⟨y, hy, rfl⟩ := hj
       exact hcell j y hy) hlt (by simpa using hlen.1) (by simp; omega) (by rw [hmap]; simpa using hlen.2)
      rw [hmap] at this
      simp only [List.length_map] at this
      rw [hlr]
      exact this
   ·cases hF
  ·cases hF
 ·cases hF
end
end Go.AM
