/-
  The law dispatchlaw.Looks: every Look: it returns true for every script. The tied card: its listed variables are tied to the program's text. Conditions: none beside the card's own.
-/
import Derived.Test.YtaejfobbogahmabGreatDoorMkLaid
import Derived.Test.YtaejfobbogahmabGreatDoorMkUp5
import Derived.Test.YtaejfobbogahmabGreatDoorMkOps
import Derived.Carry
import Derived.ChangeMaps5
set_option maxRecDepth 100000
set_option maxHeartbeats 16000000
set_option linter.unusedVariables false
set_option linter.unusedSimpArgs false
namespace Go.Proofs.YtaejfobbogahmabGreatDoor
open Go Go.Shelf Go.ChangeShapes Go.WideShapes Go.ChangeAt Go.RowKit Go.Lib
namespace looks
theorem op_weight {H:Type} (o:OpD):o.s.length∈DataW.weights Tryz.prog 28 (opData o:DataW H):=by
 unfold opData
 rw [DataW.weights,Tryz.underlying28]
 simp [DataW.weightsEach,DataW.weights]
theorem ops_weights {H:Type} {ops:List OpD} {o:OpD} (h:o∈ops):o.s.length∈DataW.weightsAll Tryz.prog 28 (ops.map fun o=>(opData o:DataW H)):=by
 induction ops with
 | nil=>cases h
 | cons a l ih =>
   simp only [List.map_cons,DataW.weightsAll,List.mem_append]
   rcases List.mem_cons.1 h with rfl | h'
   ·exact .inl (op_weight _)
   ·exact .inr (ih h')
theorem witness_row (os:Os) {H:Type} (enc:TypeId×Value→H) :
 (OpenSpec.ofChange Rows.looksSpec).preRow enc Tryz.prog Tryz.f6 Rows.looksRow.domain false Rows.looksRow.laid ((laidWorld os).forCall (fun _ _=>0) ⟨#[],#[.slice none 0 0],[]⟩).memory #[.slice none 0 0]:=by
 have hw:(DataW.whole enc Tryz.prog ((laidWorld os).forCall (fun _ _=>0) ⟨#[],#[.slice none 0 0],[]⟩).memory Tryz.f6.params.toList (OpenSpec.ofChange Rows.looksSpec).vars false (#[.slice none 0 0]:Array Value).toList 8).map (fun x=>(x.1,x.2.1)) =
  some ([.nil],[]):=by kernel_rfl
 obtain ⟨⟨x1,x2,x3⟩,hx,hx1⟩:=Option.map_eq_some_iff.1 hw
 simp only [Prod.mk.injEq] at hx1
 obtain ⟨rfl,rfl⟩:=hx1
 exact OpenSpec.preRow_of_cond 8 hx (by kernel_rfl) (fun k hk=>by cases hk) (by kernel_rfl) (laid_met os _)
theorem lifted (os:Os) (started:os.Started) (H:Type) (enc:TypeId×Value→H) (F:Stop.Interp) :
 ReturnsInHanded {} Tryz.checked os 6 .any ((OpenSpec.ofChange Rows.looksSpec).preRow enc Tryz.prog Tryz.f6 Rows.looksRow.domain false Rows.looksRow.laid) (((OpenSpec.ofChange Rows.looksSpec).at F).post enc Tryz.prog Tryz.f6 false true false false):=by
 refine returnsInHanded_of_row (C:=Tryz.checked) (s:=OpenSpec.ofChange Rows.looksSpec) own started (by kernel_rfl) Tryz.func6
  (witness_row_atRef (enc:=enc) (C:=Tryz.checked) false (laidWorld os) #[.slice none 0 0] rfl (by kernel_rfl) (by kernel_rfl) (by kernel_rfl) (witness_row os enc)) ?_
 intro W base args ds gs before hval0 hW _ _ hsz0 hL hsh _
 have hsz:(DataW.weightsEach Tryz.prog (Tryz.f6.params.toList++(OpenSpec.ofChange Rows.looksSpec).bare.plain.varTypes Tryz.prog) (ds++gs)).all (·≤reachBytes)=true:=hsz0
 clear hsz0
 have hval:∀(j:Nat) t v,Tryz.f6.params[j]?=some t→args[j]?=some v→Value.okWide Tryz.prog W .any base t v:=hval0
 have hW':=hW
 obtain ⟨p,q,hA0,hV0,rfl,_,_⟩:=hW
 have hA:DataW.TrodAll enc Tryz.prog W 0 (fun _=>true) true Tryz.f6.params.toList args.toList ds p:=hA0
 rw [Tryz.params6] at hA hval hsz
 obtain ⟨v0,d0,rfl,rfl,h0⟩:=trodAll_one hA
 obtain ⟨rfl,rfl⟩:=trodVars_none hV0
 obtain ⟨a0,n0,c0,rfl⟩:=okWide_slice Tryz.underlying22 (hval 0 22 v0 rfl rfl)
 have h0k:=h0
 obtain ⟨fuel0,hf0⟩:=h0
 clear hA0 hV0 hval0
 simp only [List.append_nil] at hW' hsz
 have hlt:∀x∈p,x.block < W.heap.size:=fun x hx=>by simpa using hW'.lt x (by simp [hx])
 obtain ⟨ops,hops,hn,hwf,hts⟩:=open_ops hf0
 replace hts:ops=[]∨∃spare,d0=.slice (ops.map opData) spare:=hts
 have hall:ops.length≤140737488351232∧∀o∈ops,o.s.length≤140737488351232:=by
  rcases hts with h0 | ⟨spare,hd0⟩
  ·subst h0;exact ⟨Nat.zero_le _,fun _ h=>by cases h⟩
  ·constructor
   ·have:=sized_slice hsz (j:=0) (t:=22) (e:=28) rfl (by rw [hd0];rfl) Tryz.underlying22
    rw [show Tryz.prog.bytesOf 28=80 by kernel_rfl] at this
    simp only [List.length_map,reachBytes] at this
    omega
   ·intro o ho
    have:=List.all_eq_true.1 hsz o.s.length (DataW.weights_mem_each (j:=0) (t:=22) (d:=d0) rfl rfl o.s.length (by
     rw [hd0,DataW.weights,Tryz.underlying22]
     refine List.mem_cons.2 (.inr (List.mem_append.2 (.inl ?_)))
     exact ops_weights ho))
    exact of_decide_eq_true this
 subst hn
 have hw:=Looks_calls (env_of_laid hL hsh) (Nat.le_refl _) (cap:=c0) ops hops hall.1 hall.2 hwf
 refine hw.mono ?_
 rintro e W' ⟨rfl,bel⟩
 have e1:((OpenSpec.ofChange Rows.looksSpec).at F).fn H ([d0]++[])={results:=[.lit (.bool true)],args:=[d0]}:=rfl
 refine ⟨_,rfl,_,_,_,[],p,[],hW',?_,?_,?_,bel.frame _,fun h=>by cases h⟩
 ·rw [e1];exact trodAll_mk1 (shut_bool Tryz.underlying4 _)
 ·rw [e1];exact trodAll_mk1 (Below.trod (by kernel_rfl) (by kernel_rfl) (of_decide_eq_true (by kernel_rfl)) h0k bel hlt)
 ·rw [e1];rfl
theorem proved_row:Rows.LooksSaid:=
 OpenClaim.holds_of_cond 6 Tryz.f6 rfl rfl rfl rfl rfl rfl rfl ⟨rfl,rfl,rfl,rfl,rfl⟩ rfl rfl rfl rfl rfl (by kernel_rfl) Tryz.func6 (by kernel_rfl)
  (of_decide_eq_true (by kernel_rfl)) (by unfold Func.isWrapper;rw [if_neg (of_decide_eq_false (by kernel_rfl))];exact ⟨rfl,rfl⟩)
  (fun os started H enc _ F0=>by rw [OpenClaim.pre_eq_preRow];exact lifted os started H enc F0)
theorem proved:Rows.LooksCardSaid:=
 Claim7.holds_tied_plain_at .later [] [.data,.data,.data,.data,.pinned] true (true,"ceed0c69e30074d1d9f6964b73a2c812c7b03c93434b64c403f7ba5fff3d56c0") true
  proved_row (fun _ h=>by cases h) (by kernel_rfl) (fun _ h=>by cases h) looks_row_tie rfl ⟨rfl,rfl⟩ (by kernel_rfl) rfl
  (fun f fn hf hfn=>by
   obtain rfl:f=6:=Option.some.inj ((show Tryz.prog.funcNamed "dispatch/dispatchlaw.Looks" = some 6 by kernel_rfl).symm.trans hf) |>.symm
   obtain rfl:fn=Tryz.f6:=(Option.some.inj (Tryz.func6.symm.trans hfn)).symm
   exact ⟨by kernel_rfl,fun j t ht=>by
    rw [Tryz.params6] at ht
    have hm:t∈([22]:List TypeId):=by simpa using Array.mem_of_getElem? ht
    have hall:(([22]:List TypeId).all fun u=>!Tryz.prog.wantsStandIn u)=true:=by kernel_rfl
    exact (show Tryz.prog.wantsStandIn t=false by simpa using List.all_eq_true.1 hall t hm)⟩)
  (by kernel_rfl)
#print axioms proved
end looks
end Go.Proofs.YtaejfobbogahmabGreatDoor
