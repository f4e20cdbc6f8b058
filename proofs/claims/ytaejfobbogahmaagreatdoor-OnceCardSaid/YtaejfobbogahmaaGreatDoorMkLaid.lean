/-
  Laid: texts of their own, joined.
-/
import Derived.Test.YtaejfobbogahmaaGreatDoorRows
import Derived.Test.YtaejfobbogahmaaGreatDoorCards
import Derived.Test.YtaejfobbogahmaaGreatDoorTie
import Derived.Test.YtaejfobbogahmaaGreatDoorMkWire7
import Derived.Lib.LaidIn
import Derived.Lib.LaidU8T
import Derived.Lib.LaidTab
import Derived.Deep.DeepHandedRow
import Derived.Deep.DeepWitnessRowRef
import Derived.ProofKit
import Derived.SizedLaws
import Derived.SevenTiedAt
set_option maxRecDepth 100000
set_option maxHeartbeats 16000000
set_option linter.all false
namespace Go.Proofs.YtaejfobbogahmaaGreatDoor
open Go Go.Shelf Go.ChangeShapes Go.WideShapes Go.ChangeAt Go.RowKit Go.Lib
theorem own:ownKnob Tryz.prog.godebug=none:=by kernel_rfl
noncomputable def zDJ (os:Os):World:=
 let w0:=World.holding Tryz.prog os ⟨#[],#[],[]⟩
 let put (h:Array Obj) (g:Nat) (cs:Array Value):Array Obj:=h.modify g fun
  | .cells _ t frozen=>.cells cs t frozen
  | o=>o
 let ints (k:IntKind) (d:DataW Unit):Array Value:=match d with
  | .agg l=>(l.map fun x=>match x with | .lit (.int _ z)=>Value.int k z | _=>Value.int k 0).toArray
  | _=>#[]
 let h0:=put w0.heap 0 (Lib.firstTab.map fun z=>Value.int .u8 z).toArray
 let h1:=put h0 1 ((List.range 16).flatMap fun i=>[Value.int .u8 (Lib.accLo i),Value.int .u8 (Lib.accHi i)]).toArray
 let h3:=put h1 3 (ints .u64 Rows.laid_internal_strconv_uint64pow10)
 let h4:=put h3 4 (ints .u8 Rows.laid_math_bits_deBruijn32tab)
 let h5:=put h4 5 (ints .u8 Rows.laid_math_bits_deBruijn64tab)
 {w0 with heap:=h5}
abbrev zEs:List (String×DataW Unit):=[("math/bits.deBruijn32tab",Rows.laid_math_bits_deBruijn32tab),("math/bits.deBruijn64tab",Rows.laid_math_bits_deBruijn64tab),("internal/strconv.uint64pow10",Rows.laid_internal_strconv_uint64pow10),("unicode/utf8.acceptRanges",Rows.laid_unicode_utf8_acceptRanges),("unicode/utf8.first",Rows.laid_unicode_utf8_first)]
theorem zNw (os:Os) (args:Array Value):laidMet Tryz.prog zEs ((zDJ os).forCall (fun _ _=>0) ⟨#[],args,[]⟩).memory:=
 (LaidIn.of_run (l:=zEs) [4,5,3,1,0] 8 (by kernel_rfl) (by kernel_rfl) (by kernel_rfl) (by kernel_rfl)).met
theorem zNx {P:Program} {W:World} {name:String} {k:IntKind} {zs:List Int} {g:Nat} {t e:TypeId} {n:Nat}
 (hg:P.globalNamed name=some g) (hty:(P.globals[g]?).map (·.type)=some t) (ht:P.underlying t=some (.array n e)) (he:P.underlying e=some (.int k)) (hce:P.cellsOf e=1) (hct:P.cellsOf t=n)
 (h:VarReads P W name (tabData k zs)):TabIs P W name k zs:=by
 obtain ⟨g',t',cs,fuel,p,hg',ht',hvar,hd⟩:=h
 obtain rfl:=Option.some.inj (hg.symm.trans hg')
 obtain rfl:=Option.some.inj (hty.symm.trans ht')
 unfold TabIs
 rw [hvar,←cells_of_tab ht he hce hct hd]
theorem zNy {W:World} (hL:laidMet Tryz.prog zEs W) (hs:W.ShapedOpen Tryz.prog):Env W.heap.size W:=by
 have h1:VarReads Tryz.prog W "unicode/utf8.first" firstData:=by
  have:=Lib.laidMet.reads hL (n:= "unicode/utf8.first") (d:=Rows.laid_unicode_utf8_first) (by simp)
  rw [show Rows.laid_unicode_utf8_first=firstData from by kernel_rfl] at this
  exact this
 have h2:VarReads Tryz.prog W "unicode/utf8.acceptRanges" acceptData:=by
  have:=Lib.laidMet.reads hL (n:= "unicode/utf8.acceptRanges") (d:=Rows.laid_unicode_utf8_acceptRanges) (by simp)
  rw [show Rows.laid_unicode_utf8_acceptRanges=acceptData from by kernel_rfl] at this
  exact this
 have h3:VarReads Tryz.prog W "internal/strconv.uint64pow10" (tabData .u64 Lib.pow10Tab):=by
  have:=Lib.laidMet.reads hL (n:= "internal/strconv.uint64pow10") (d:=Rows.laid_internal_strconv_uint64pow10) (by simp)
  rw [show (Rows.laid_internal_strconv_uint64pow10:DataW Unit)=tabData .u64 Lib.pow10Tab from by kernel_rfl] at this
  exact this
 refine ⟨W,Nat.le_refl _,hs,utf8Tabs_of_readsT (U8Types.of196 Tryz.lays196) ⟨by kernel_rfl,by kernel_rfl,by kernel_rfl,by kernel_rfl,by kernel_rfl,by kernel_rfl,by kernel_rfl⟩ h1 h2,
  zNx (g:=3) (t:=244) (e:=206) (n:=20) (by kernel_rfl) (by kernel_rfl) (by kernel_rfl) (by kernel_rfl) (by kernel_rfl) (by kernel_rfl) h3,Below.refl _ _⟩
end Go.Proofs.YtaejfobbogahmaaGreatDoor
