/-
  OnceCard: texts of their own, joined.
-/
import Derived.Test.YtaejfobbogahmaaGreatDoorMkLaid
import Derived.Test.YtaejfobbogahmaaGreatDoorMkOnce
import Derived.SliceStrings
import Derived.Carry
import Derived.ChangeMaps5
set_option maxRecDepth 100000
set_option maxHeartbeats 16000000
set_option linter.all false
namespace Go.Proofs.YtaejfobbogahmaaGreatDoor
open Go Go.Shelf Go.ChangeShapes Go.WideShapes Go.ChangeAt Go.RowKit Go.Lib
namespace once
theorem zOR {H:Type} {enc:TypeId×Value→H} {W:World} {a0:Option Addr} {len cap fuel:Nat} {x:DataW H×List MemPlace}
 (hf:DataW.trod enc Tryz.prog W 0 (fun _=>true) true fuel 47 [.slice a0 len cap]=some x) :
 ∃tl:List zA,zCL W a0 tl∧tl.length=len∧(tl=[]∨∃spare,x.1=.slice (tl.map fun t=>.lit (.string t)) spare):=by
 rcases open_strings Tryz.underlying47 Tryz.underlying9 (by kernel_rfl) hf with ⟨hcs,hx⟩ | ⟨a,len',cap',ss,hcs,_,hl,hm,hz,hx,hcell,_⟩
 ·simp at hcs
  obtain ⟨rfl,rfl,rfl⟩:=hcs
  exact ⟨[],fun j t h=>by simp at h,rfl,.inl rfl⟩
 ·simp at hcs
  obtain ⟨rfl,rfl,rfl⟩:=hcs
  subst hx
  simp only [if_true] at hz
  obtain ⟨b,off,spot⟩:=a
  refine ⟨(ss.take len).map (·.data.toList),fun j t ht=>?_,by simp;omega,.inr ⟨strs (ss.drop len),by simp [strs,Function.comp_def]⟩⟩
  rw [List.getElem?_map,Option.map_eq_some_iff] at ht
  obtain ⟨X,hX,rfl⟩:=ht
  have hj:j < len:=by
   have:=(List.getElem?_eq_some_iff.1 hX).1
   simp at this
   omega
  have hspot:spot=none:=by simpa [Addr.add] using World.cell?_spot (hcell 0 (by omega))
  subst hspot
  have hX':ss.getD j ByteArray.empty=X:=by
   rw [List.getElem?_take_of_lt hj] at hX
   simp [List.getD,hX]
  refine ⟨b,off,rfl,?_⟩
  rw [show bs X.data.toList=X by cases X;simp [bs],←Lib.add_plain,←hX']
  exact hcell j (by omega)
theorem zOS {H:Type} {tl:List zA} {t:zA} (h:t∈tl):t.length∈DataW.weightsAll Tryz.prog 9 (tl.map fun t=>(.lit (.string t):DataW H)):=by
 induction tl with
 | nil=>cases h
 | cons a l ih =>
   simp only [List.map_cons,DataW.weightsAll,DataW.weights,List.mem_append,List.mem_singleton]
   rcases List.mem_cons.1 h with rfl | h'
   ·exact .inl rfl
   ·exact .inr (ih h')
theorem zOT (os:Os) {H:Type} (enc:TypeId×Value→H) :
 (OpenSpec.ofChange Rows.onceSpec).preRow enc Tryz.prog Tryz.f13 Rows.onceRow.domain false Rows.onceRow.laid ((zDJ os).forCall (fun _ _=>0) ⟨#[],#[.slice none 0 0,.string ByteArray.empty],[]⟩).memory #[.slice none 0 0,.string ByteArray.empty]:=by
 have hw:(DataW.whole enc Tryz.prog ((zDJ os).forCall (fun _ _=>0) ⟨#[],#[.slice none 0 0,.string ByteArray.empty],[]⟩).memory Tryz.f13.params.toList (OpenSpec.ofChange Rows.onceSpec).vars false (#[.slice none 0 0,.string ByteArray.empty]:Array Value).toList 8).map (fun x=>(x.1,x.2.1)) =
  some ([.nil,.lit (.string [])],[]):=by kernel_rfl
 obtain ⟨⟨x1,x2,x3⟩,hx,hx1⟩:=Option.map_eq_some_iff.1 hw
 simp only [Prod.mk.injEq] at hx1
 obtain ⟨rfl,rfl⟩:=hx1
 exact OpenSpec.preRow_of_cond 8 hx (by kernel_rfl) (fun k hk=>by cases hk) (by kernel_rfl) (zNw os _)
theorem zOU (os:Os) (started:os.Started) (H:Type) (enc:TypeId×Value→H) (F:Stop.Interp) :
 ReturnsInHanded {} Tryz.checked os 13 .any ((OpenSpec.ofChange Rows.onceSpec).preRow enc Tryz.prog Tryz.f13 Rows.onceRow.domain false Rows.onceRow.laid) (((OpenSpec.ofChange Rows.onceSpec).at F).post enc Tryz.prog Tryz.f13 false true false false):=by
 refine returnsInHanded_of_row (C:=Tryz.checked) (s:=OpenSpec.ofChange Rows.onceSpec) own started (by kernel_rfl) Tryz.func13
  (witness_row_atRef (enc:=enc) (C:=Tryz.checked) false (zDJ os) #[.slice none 0 0,.string ByteArray.empty] rfl (by kernel_rfl) (by kernel_rfl) (by kernel_rfl) (zOT os enc)) ?_
 intro W base args ds gs before hval0 hW _ _ hsz0 hL hsh _
 have hsz:(DataW.weightsEach Tryz.prog (Tryz.f13.params.toList++(OpenSpec.ofChange Rows.onceSpec).bare.plain.varTypes Tryz.prog) (ds++gs)).all (·≤reachBytes)=true:=hsz0
 clear hsz0
 have hval:∀(j:Nat) t v,Tryz.f13.params[j]?=some t→args[j]?=some v→Value.okWide Tryz.prog W .any base t v:=hval0
 have hW':=hW
 obtain ⟨p,q,hA0,hV0,rfl,_,_⟩:=hW
 have hA:DataW.TrodAll enc Tryz.prog W 0 (fun _=>true) true Tryz.f13.params.toList args.toList ds p:=hA0
 rw [Tryz.params13] at hA hval hsz
 obtain ⟨v0,v1,d0,d1,p0,p1,rfl,rfl,rfl,h0,h1⟩:=trodAll_two hA
 obtain ⟨rfl,rfl⟩:=trodVars_none hV0
 obtain ⟨a0,n0,c0,rfl⟩:=okWide_slice Tryz.underlying47 (hval 0 47 v0 rfl rfl)
 obtain ⟨cu,rfl,rfl,rfl,hcu⟩:=ChangeMaps.open_string Tryz.underlying9 (hval 1 9 v1 rfl rfl) h1
 have h0k:=h0
 obtain ⟨fuel0,hf0⟩:=h0
 clear hA0 hV0 hval0
 simp only [List.append_nil] at hW' hsz
 have hlt:∀x∈p0,x.block < W.heap.size:=fun x hx=>by simpa using hW'.lt x (by simp [hx])
 obtain ⟨tl,htl,htn,hts⟩:=zOR hf0
 replace hts:tl=[]∨∃spare,d0=.slice (tl.map fun t=>.lit (.string t)) spare:=hts
 have hcl:cu.data.toList.length≤140737488351232:=by
  have:=sized_string hsz (j:=1) (t:=9) (bytes:=cu.data.toList) rfl rfl
  simpa [reachBytes] using this
 have hall:tl.length≤140737488351232∧∀t∈tl,t.length≤140737488351232:=by
  rcases hts with h0 | ⟨spare,hd0⟩
  ·subst h0;exact ⟨Nat.zero_le _,fun _ h=>by cases h⟩
  ·constructor
   ·have:=sized_slice hsz (j:=0) (t:=47) (e:=9) rfl (by rw [hd0];rfl) Tryz.underlying47
    rw [show Tryz.prog.bytesOf 9=16 by kernel_rfl] at this
    simp only [List.length_map,reachBytes] at this
    omega
   ·intro t ht
    have:=List.all_eq_true.1 hsz t.length (DataW.weights_mem_each (j:=0) (t:=47) (d:=d0) rfl rfl t.length (by
     rw [hd0,DataW.weights,Tryz.underlying47]
     refine List.mem_cons.2 (.inr (List.mem_append.2 (.inl ?_)))
     exact zOS ht))
    exact of_decide_eq_true this
 subst htn
 have hw:=zOQ (zNy hL hsh) (Nat.le_refl _) a0 c0 tl cu.data.toList htl hall.1 hall.2 hcl
 rw [show bs cu.data.toList=cu by cases cu;simp [bs]] at hw
 refine hw.mono ?_
 rintro e W' ⟨rfl,bel⟩
 have e1:((OpenSpec.ofChange Rows.onceSpec).at F).fn H ([d0,.lit (.string cu.data.toList)]++[])={results:=[.lit (.bool true)],args:=[d0,.lit (.string cu.data.toList)]}:=rfl
 refine ⟨_,rfl,_,_,_,[],p0++[],[],hW',?_,?_,?_,bel.frame _,fun h=>by cases h⟩
 ·rw [e1];exact trodAll_mk1 (shut_bool Tryz.underlying4 _)
 ·rw [e1];exact trodAll_mk2 (Below.trod (by kernel_rfl) (by kernel_rfl) (of_decide_eq_true (by kernel_rfl)) h0k bel hlt) (ChangeMaps.shut_string Tryz.underlying9 hcu)
 ·rw [e1];rfl
theorem zOV:Rows.OnceSaid:=
 OpenClaim.holds_of_cond 13 Tryz.f13 rfl rfl rfl rfl rfl rfl rfl ⟨rfl,rfl,rfl,rfl,rfl⟩ rfl rfl rfl rfl rfl (by kernel_rfl) Tryz.func13 (by kernel_rfl)
  (of_decide_eq_true (by kernel_rfl)) (by unfold Func.isWrapper;rw [if_neg (of_decide_eq_false (by kernel_rfl))];exact ⟨rfl,rfl⟩)
  (fun os started H enc _ F0=>by rw [OpenClaim.pre_eq_preRow];exact zOU os started H enc F0)
theorem proved:Rows.OnceCardSaid:=
 Claim7.holds_tied_plain_at .later [] [.data,.data,.data,.data,.pinned] true (true,"e824820f69296c1c8a0df1f7592b042f868eb2c349dd41e66be5cd9602294ad7") true
  zOV (fun _ h=>by cases h) (by kernel_rfl) (fun _ h=>by cases h) once_row_tie rfl ⟨rfl,rfl⟩ (by kernel_rfl) rfl
  (fun f fn hf hfn=>by
   obtain rfl:f=13:=Option.some.inj ((show Tryz.prog.funcNamed "dispatch/dispatchkeep.Once" = some 13 by kernel_rfl).symm.trans hf) |>.symm
   obtain rfl:fn=Tryz.f13:=(Option.some.inj (Tryz.func13.symm.trans hfn)).symm
   exact ⟨by kernel_rfl,fun j t ht=>by
    rw [Tryz.params13] at ht
    have hm:t∈([47,9]:List TypeId):=by simpa using Array.mem_of_getElem? ht
    have hall:(([47,9]:List TypeId).all fun u=>!Tryz.prog.wantsStandIn u)=true:=by kernel_rfl
    exact (show Tryz.prog.wantsStandIn t=false by simpa using List.all_eq_true.1 hall t hm)⟩)
  (by kernel_rfl)
#print axioms proved
end once
end Go.Proofs.YtaejfobbogahmaaGreatDoor
