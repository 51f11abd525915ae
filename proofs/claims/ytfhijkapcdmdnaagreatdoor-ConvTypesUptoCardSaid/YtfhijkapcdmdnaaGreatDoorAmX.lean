/- The abstract machine: functions of the library, told by the shelf's contracts. -/
import Derived.Test.YtfhijkapcdmdnaaGreatDoorAmV
import Derived.Lib.Bytealg
import Derived.Shelf.Strings.OnBuilder
import Derived.Shelf.Strings.Search3
import Derived.Shelf.Strings.SlTrimAscii
import Derived.Shelf.Strconv.Itoa3
namespace Go.AM
open Go.RowKit Go.Shelf Go.Lib Go.Sort
section
variable {P:Program} {G:GTab} {g:Nat}
theorem IR.str_inv {w:World} {im:Imm} {s:List UInt8} {v:Value} (h:IR w im (.str s) v):v = .string ⟨s.toArray⟩:=by cases h;rfl
theorem IR.int_inv {w:World} {im:Imm} {k:IntKind} {n:Int} {v:Value} (h:IR w im (.int k n) v):v = .int k n:=by cases h;rfl
theorem spec_below {F:List AV→Option AV} (h:∀ args v,F args=some v→∀ (w:World) (im:Imm) (rargs:Array Value),GOK G w im→rargs.size=args.length→(∀ (i:Nat) x,args[i]?=some x→IR w im x (rargs.getD i Go.undef)) →
  Enters P g∧∃ rv,(∀ w' im',IR w' im' v rv)∧Calls P g rargs w fun e w'=>e = .returned rv∧RowKit.Below w.heap.size w w'):SpecOK P G g F:=by
 intro args v hF w im rargs hg hn hr
 obtain ⟨h1,rv,h2,h3⟩:=h args v hF w im rargs hg hn hr
 refine ⟨h1,h3.mono ?_⟩
 rintro e w' ⟨rfl,hb⟩
 exact ⟨rv,im,rfl,h2 _ _,hb,fun _ _ q=>q,fun _ _ q => .inl q⟩
def libIndex:List AV→Option AV
 | [.str s,.str t]=>if s.length<4294967281 then some (.int .i64 (Go.Lib.index s t)) else none
 | _=>none
def ascii (c:List UInt8):Bool:=c.all fun b=>decide (b.toNat<128)
def libTrimRight:List AV→Option AV
 | [.str s,.str c]=>if s.length≤9223372036854775807∧c.length<4294967281∧ascii c=true then some (.str (Go.Lib.trimRightS s c)) else none
 | _=>none
def libTrim:List AV→Option AV
 | [.str s,.str c]=>if s.length≤9223372036854775807∧c.length<4294967281∧ascii c=true then some (.str (Go.Lib.trimS s c)) else none
 | _=>none
theorem spec_trim (hE:Enters P g) (hc:∀ (s c:ByteArray) (w:World),s.size≤9223372036854775807→c.size<4294967281→(∀ (j:Nat) b,c.data.toList[j]?=some b→b.toNat<128) →
  Calls P g #[.string s,.string c] w fun e w'=>e = .returned (.string ⟨(Go.Lib.trimS s.data.toList c.data.toList).toArray⟩)∧RowKit.Below w.heap.size w w'):SpecOK P G g libTrim:=by
 refine spec_below fun args v hF w im rargs hg hn hr=>?_
 unfold libTrim at hF
 split at hF
 ·rename_i s c
  split at hF
  ·rename_i hlen
   cases hF
   have e0:=(hr 0 _ rfl).str_inv
   have e1:=(hr 1 _ rfl).str_inv
   rw [arrOf2 (l:=rargs) hn,e0,e1]
   exact ⟨hE,_,fun w' im' => .str _,hc ⟨s.toArray⟩ ⟨c.toArray⟩ w (by simpa [ByteArray.size] using hlen.1) (by simpa [ByteArray.size] using hlen.2.1) (fun j b hb=>by
    have:=List.all_eq_true.1 hlen.2.2 b (List.mem_of_getElem? (by simpa using hb))
    simpa using this)⟩
  ·cases hF
 ·cases hF
def libItoa:List AV→Option AV
 | [.int .i64 n]=>if -9223372036854775808≤n∧n≤9223372036854775807 then some (.str (Go.Lib.itoa n)) else none
 | _=>none
def strRows:List (List AV)→Option (List (List UInt8))
 | []=>some []
 | [.str s] :: r=>(strRows r).map (s :: ·)
 | _=>none
def libJoin:List AV→Option AV
 | [.is rows _,.str sep]=>match strRows rows with
  | some xs=>if xs.length≤140737488355328∧(Go.Lib.join xs sep).length≤140737488355328 then some (.str (Go.Lib.join xs sep)) else none
  | none=>none
 | _=>none
end
end Go.AM
