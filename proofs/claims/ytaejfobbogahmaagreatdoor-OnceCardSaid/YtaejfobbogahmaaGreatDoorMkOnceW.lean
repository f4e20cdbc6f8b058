/-
  OnceW: texts of their own, joined.
-/
import Derived.Test.YtaejfobbogahmaaGreatDoorMkWords
set_option maxRecDepth 100000
set_option maxHeartbeats 16000000
set_option linter.all false
namespace Go.Proofs.YtaejfobbogahmaaGreatDoor
open Go Go.RowKit
structure KP (G:Nat) (w0:World) (D Wb:Nat) (Pr:Nat→Prop) (r:Raw) (w:World):Prop where
 rep:∃ρ L,RRep w ρ G D L r∧(∀b,Of ρ b→w0.heap.size≤b)∧¬Of ρ Wb∧∀b,Pr b→¬Of ρ b
 box:w.heap[Wb]?=some (.cells #[vp D] 43 (0,0))
 new:w0.heap.size≤Wb
 below:Below w0.heap.size w0 w
 env:Env G w
 prot:∀b,Pr b→b < w.heap.size
section
variable {G D Wb:Nat} {Pr:Nat→Prop} {w0 w w':World} {r:Raw}
theorem KP.grow (h:KP G w0 D Wb Pr r w) (hb:Below w.heap.size w w'):KP G w0 D Wb Pr r w':=by
 obtain ⟨⟨ρ,L,h1,h2,h3,h8⟩,h4,h5,h6,h7,h9⟩:=h
 exact ⟨⟨ρ,L,h1.of_fr (Fr.of_below (S:=fun _=>False) hb) (fun _ f=>f.elim),h2,h3,h8⟩,(hb.block _ (zD _ h4)).trans h4,h5,Below.trans h6 (hb.mono h6.size),h7.grow hb,fun b hb'=>Nat.lt_of_lt_of_le (h9 b hb') hb.size⟩
def yz (w0:World) (Pr:Nat→Prop) (w:World) (v:Value) (x:List (Int×zA)):Prop:=SlAt w 59 2 (fun b=>w0.heap.size≤b∧¬Pr b) v x.length (yv (yy x))
theorem KP.told (h:KP G w0 D Wb Pr r w) (hG:G≤w0.heap.size) {r':Raw} {e:Ending} {ρ:Nat→Role} {L:Lay} (h1:RRep w ρ G D L r) (h2:∀b,Of ρ b→w0.heap.size≤b) (h3:¬Of ρ Wb) (h3p:∀b,Pr b→¬Of ρ b) (hp:zBW w ρ G D r' e w') {x:List (Int×zA)} (hx:r'.out=yy x) :
 ∃v,e=.returned v∧KP G w0 D Wb Pr (xe r') w'∧yz w0 Pr w' v x∧∀b,Pr b→w'.heap[b]?=w.heap[b]?:=by
 obtain ⟨_,h4,h5,h6,h7,h9⟩:=h
 obtain ⟨v,ρ',L',rfl,k1,k2,k3⟩:=hp
 have hof:∀b,Of ρ' b→w0.heap.size≤b:=fun b hb=>by
  rcases k2.own b hb with h8 | h8
  ·exact h2 b h8
  ·have:=h6.size;omega
 refine ⟨v,rfl,⟨⟨ρ',L',k1,hof,fun hh=>(k2.own Wb hh).elim h3 (fun h8=>by have:=zD _ h4;omega),fun b hb hh=>(k2.own b hh).elim (h3p b hb) (fun h8=>by have:=h9 b hb;omega)⟩,
  (k2.fr.block _ (zD _ h4) h3).trans h4,h5,Below.trans h6 (k2.fr.below h6.size h2),h7.fr k2.fr (fun b hb=>Nat.le_trans hG (h2 b hb)),fun b hb=>Nat.lt_of_lt_of_le (h9 b hb) k2.fr.size⟩,?_,fun b hb=>k2.fr.block _ (h9 b hb) (h3p b hb)⟩
 unfold yz
 rw [←hx]
 have:x.length=r'.out.length:=by rw [hx];simp [yy]
 rw [this]
 refine SlAt.of_blk k3 (fun _ _ _=>rfl) (fun b hb _=>?_)
 rcases hb.1 with h8 | h8
 ·exact ⟨h2 b h8,fun hpb=>h3p b hpb h8⟩
 ·exact ⟨by have:=h6.size;omega,fun hpb=>by have:=h9 b hpb;omega⟩
theorem KP.turn (h:KP G w0 D Wb Pr r w) (hW:¬Pr Wb) (hPn:∀b,Pr b→w0.heap.size≤b) (hG:G≤w0.heap.size) (hf:Fr Pr w w') {Q:Nat→Prop} (hq:∀b,Q b→Pr b∨w.heap.size≤b) (hl:∀b,Q b→b < w'.heap.size):KP G w0 D Wb Q r w':=by
 obtain ⟨⟨ρ,L,h1,h2,h3,h8⟩,h4,h5,h6,h7,h9⟩:=h
 exact ⟨⟨ρ,L,h1.of_fr hf (fun b hp ho=>h8 b hp ho),h2,h3,fun b hb ho=>(hq b hb).elim (fun hp=>h8 b hp ho) (fun hp=>by have:=(h1.dom b ho).2;omega)⟩,(hf.block _ (zD _ h4) hW).trans h4,h5,Below.trans h6 (hf.below h6.size hPn),h7.fr hf (fun b hb=>Nat.le_trans hG (hPn b hb)),hl⟩
theorem zHl {r:Raw} (c:Int) (hn:zAF (zH r c)) {t:zA} (h10:(10:UInt8)∉t):zL (yr (zH r c) c) (yZ t)=([(zS t).take 81],[]):=by
 rw [hn.of c]
 exact zCH (zS t) [] (zEi h10) (by simp)
theorem zNp {N P:Nat} {r:Raw} (hI:Inv N P r) (c:Int) (hn:zAF (zH r c)) {t:zA} (h10:(10:UInt8)∉t):Inv (N+1) (P+4) (yN r c (yZ t)):=by
 have e:=zHl c hn h10
 have:=Inv.lines c (zL (yr (zH r c) c) (yZ t)).1 ((hI.conn c).rest c (zL (yr (zH r c) c) (yZ t)).2)
 rw [e] at this
 unfold yN
 simp only [e]
 exact this
theorem yS.fed {N P:Nat} {r:Raw} (h:yS N P r) {c:Int} (hc:0≤c) {s:zA} (h10:(10:UInt8)∉s):yS (N+1) (P+4) (xe (yN r c (yZ s)))∧∃l,(yN r c (yZ s)).out=sayL l∧Trk (some s) (opn r) l (opn (yN r c (yZ s)))∧zAO l∧l.length≤P+4:=by
 have h1:=zNp h.inv c (zAe r c h.norest) h10
 obtain ⟨⟨l,k1,k2,k3⟩,k4⟩:=zNU h.inv h.sol c hc (zAe r c h.norest) h10
 have k1:(yN r c (yZ s)).out=sayL l:=by rw [k1,h.out];rfl
 refine ⟨⟨h1.told.mono (Nat.le_refl _) (Nat.sub_le _ _),(h.few.feed c _).told,k4,zNg h.inv c h10 h.norest,rfl⟩,l,k1,k2,k3,?_⟩
 have:=h1.n.pot
 rw [k1] at this
 unfold sayL at this
 rw [List.length_map] at this
 omega
theorem yS.ticked {N P:Nat} {r:Raw} (h:yS N P r):yS (N+1) P (xe (yp r))∧∃l,(yp r).out=sayL l∧Trk none (opn r) l (opn (yp r))∧zAO l∧l.length≤P:=by
 obtain ⟨⟨l,k1,k2,k3⟩,k4⟩:=zNP (t:=none) h.inv h.sol
 have k1:(yp r).out=sayL l:=by rw [k1,h.out];rfl
 refine ⟨⟨h.inv.tick.told.mono (Nat.le_refl _) (Nat.sub_le _ _),(h.few.tick).told,k4,zNi h.inv h.norest,rfl⟩,l,k1,k2,k3,?_⟩
 have:=h.inv.tick.n.pot
 rw [k1] at this
 unfold sayL at this
 rw [List.length_map] at this
 omega
theorem yS.closed {N P:Nat} {r:Raw} (h:yS N P r) (c:Int):yS N P (xe (yl r c))∧∃l,(yl r c).out=sayL l∧Trk none ((opn r).filter fun p=>!decide (p.2=c)) l (opn (yl r c))∧zAO l∧l.length≤P:=by
 obtain ⟨⟨l,k1,k2,k3⟩,k4⟩:=zNX (t:=none) h.inv h.sol c
 have k1:(yl r c).out=sayL l:=by rw [k1,h.out];rfl
 refine ⟨⟨(h.inv.close c).told.mono (Nat.le_refl _) (Nat.sub_le _ _),(h.few.close c).told,k4,zNj h.inv c h.norest,rfl⟩,l,k1,k2,k3,?_⟩
 have:=(h.inv.close c).n.pot
 rw [k1] at this
 unfold sayL at this
 rw [List.length_map] at this
 omega
def xw (l:List (Int×List zA)):List (Int×zA):=l.map fun p=>(p.1,zX p.2)
theorem zDI (l:List (Int×List zA)):yy (xw l)=sayL l:=by unfold yy xw sayL;rw [List.map_map];rfl
theorem zHm (hG:G≤w0.heap.size) (h:KP G w0 D Wb Pr r w) {N P:Nat} (hI:yS N P r) (c:Int) {s:zA} (h10:(10:UInt8)∉s) (hs:s.length≤140737488351232) (hN:N+1≤NB) (hP:P+4+5 < NB) {x:List (Int×zA)} (hx:(yN r c (yZ s)).out=yy x) :
 Calls Tryz.prog 22 #[vp Wb,vi c,vs (bs s)] w fun e w'=>∃v,e=.returned v∧KP G w0 D Wb Pr (xe (yN r c (yZ s))) w'∧yz w0 Pr w' v x∧∀b,Pr b→w'.heap[b]?=w.heap[b]?:=by
 refine zMi (D:=D) (y:=yZ s) (z:=zS s) (Kp:=fun v w'=>KP G w0 D Wb Pr (xe (yN r c (yZ s))) w'∧yz w0 Pr w' v x∧∀b,Pr b→w'.heap[b]?=w.heap[b]?) (zB h.box rfl) ?_ (fun w1 hb=>?_) (zBV (zS s) [10]) (by rw [zCy];omega)
 ·refine (zES (G:=0) (w:=w.drew) s (by omega)).mono ?_
  rintro e w1 ⟨rfl,hb⟩
  exact ⟨rfl,⟨hb.os,hb.tape,hb.output,hb.size,hb.block⟩⟩
 ·have hk:=h.grow hb
  obtain ⟨ρ,L,h1,h2,h3,h4⟩:=hk.rep
  have e:=zHl c (zAe r c hI.norest) h10
  refine (zMY h1 hk.env hI.inv hI.few c (yZ s) (by rw [zMf];omega) (by rw [e];exact hN) (by rw [e];exact hP)).mono ?_
  intro e w2 hp
  obtain ⟨v,rfl,g1,g2,g3⟩:=hk.told hG h1 h2 h3 h4 hp hx
  exact ⟨v,rfl,⟨g1,g2,fun b hb'=>(g3 b hb').trans (hb.block b (h.prot b hb'))⟩,zB g1.box rfl⟩
theorem zNq (hG:G≤w0.heap.size) (h:KP G w0 D Wb Pr r w) {N P:Nat} (hI:yS N P r) (hN:N+1≤NB) (hP:P+1 < NB) {x:List (Int×zA)} (hx:(yp r).out=yy x) :
 Calls Tryz.prog 27 #[vp D] w fun e w'=>∃v,e=.returned v∧KP G w0 D Wb Pr (xe (yp r)) w'∧yz w0 Pr w' v x∧∀b,Pr b→w'.heap[b]?=w.heap[b]?:=by
 obtain ⟨ρ,L,h1,h2,h3,h4⟩:=h.rep
 refine (zNA h1 h.env hI.inv hN hP).mono ?_
 intro e w' hp
 exact h.told hG h1 h2 h3 h4 hp hx
theorem zNr (hG:G≤w0.heap.size) (h:KP G w0 D Wb Pr r w) {N P:Nat} (hI:yS N P r) (c:Int) (hN:N+1≤NB) (hP:P+1 < NB) {x:List (Int×zA)} (hx:(yl r c).out=yy x) :
 Calls Tryz.prog 28 #[vp D,vi c] w fun e w'=>∃v,e=.returned v∧KP G w0 D Wb Pr (xe (yl r c)) w'∧yz w0 Pr w' v x∧∀b,Pr b→w'.heap[b]?=w.heap[b]?:=by
 obtain ⟨ρ,L,h1,h2,h3,h4⟩:=h.rep
 refine (zMr h1 h.env hI.inv hN hP c).mono ?_
 intro e w' hp
 exact h.told hG h1 h2 h3 h4 hp hx
end
end Go.Proofs.YtaejfobbogahmaaGreatDoor
