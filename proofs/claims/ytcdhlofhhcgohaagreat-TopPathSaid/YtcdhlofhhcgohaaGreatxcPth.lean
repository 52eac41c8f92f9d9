/- Frames along a line whose ports are all open: checked where they stand. -/
import Derived.Test.YtcdhlofhhcgohaaGreatxfLanA
import Derived.Test.YtcdhlofhhcgohaaGreatxfTalkOpens
namespace Go.Proofs.YtcdhlofhhcgohaaGreat
open Go.RowKit
def gatesX (ls:List Link) (b vid:Int):List Gate:=⟨0,[vid],vid,[true]⟩::(isoP (rawP ls b)).map fun p=>⟨p,[vid],0,[true]⟩
def relayX (n:Net) (vid:Int) (bs:List (List Ent)) (c:Come):List OutF×List Ent×Int:=relayS (regAt n c.br) (gatesX n.links c.br vid) (bookAt bs c.br) c.port c.f
def goX (n:Net) (vid:Int):Nat→List Come→List OutF→List (List Ent)→Sent
 | _,[],seen,bs=>⟨seen,bs,true,(0,0)⟩
 | 0,_::_,_,_=>sentBad 0
 | k+1,c::r,seen,bs=>if(relayX n vid bs c).2.2≠0 then sentBad (relayX n vid bs c).2.2 else
  goX n vid k (r++comesOf n c.br (relayX n vid bs c).1) (seen++seenOf c.br (relayX n vid bs c).1) (bs.set c.br.toNat (relayX n vid bs c).2.1)
theorem gatesX_of {n:Net} (hg:n.good) {t:List (List Mind)} (hl:t.length=1) {b vid:Int} (_h0:0≤b) (h:∀ p∈portsOf n.links b,opensT t (0:Nat) b p=true):gatesOf n t b vid=gatesX n.links b vid:=by
 unfold gatesOf gatesX
 have e0:gateOf t b vid 0=⟨0,[vid],vid,[true]⟩:=by
  unfold gateOf opensOf
  rw[hl,if_pos rfl];rfl
 rw[e0,ports_iso]
 refine congrArg _ (List.map_congr_left fun p hp=>?_)
 rw[←ports_iso]at hp
 have hp0:p≠0:=by
  have hp':=(List.mergeSort_perm _ _).mem_iff.1 (show p∈(n.links.flatMap (portAt b)).mergeSort _ from hp)
  obtain⟨l,hl,hp'⟩:=List.mem_flatMap.1 hp'
  have hk:=hg.lk l hl
  have:=hk.pa
  have:=hk.pb
  unfold portAt at hp'
  rcases List.mem_append.1 hp' with hp'|hp'
  ·split at hp'
   ·simp only[List.mem_singleton]at hp';omega
   ·cases hp'
  ·split at hp'
   ·simp only[List.mem_singleton]at hp';omega
   ·cases hp'
 have ho:=h p hp
 unfold gateOf opensOf
 rw[hl,if_neg hp0]
 show(⟨p,[vid],0,[decide (p=0) || opensT t (0:Nat) b p]⟩:Gate)=_
 rw[ho,Bool.or_true]
theorem goX_eq {n:Net} (hg:n.good) {t:List (List Mind)} {vid:Int} (h:∀ b:Int,0≤b→b<n.bridges.length→gatesOf n t b vid=gatesX n.links b vid) :
  ∀ (k:Nat) (todo:List Come) (seen:List OutF) (bs:List (List Ent)),(∀ c∈todo,0≤c.br∧c.br<n.bridges.length)→goS n t vid k todo seen bs=goX n vid k todo seen bs
 | 0,[],_,_,_=>rfl
 | _+1,[],_,_,_=>rfl
 | 0,_::_,_,_,_=>rfl
 | k+1,c::r,seen,bs,hc=>by
  obtain⟨c0,c1⟩:=hc c (by simp)
  have e:relayC n t vid bs c=relayX n vid bs c:=by unfold relayC relayX;rw[h c.br c0 c1]
  rw[goS,goX,e]
  split
  ·rfl
  ·refine goX_eq hg h k _ _ _ (fun x hx=>?_)
   rcases List.mem_append.1 hx with hx|hx
   ·exact hc x (by simp[hx])
   ·obtain⟨o,_,_,h2,_⟩:=mem_comes hx
    exact across_ok hg.lk h2
def frmI (i:Nat):Frame:=⟨281474976710655,100+(i:Int),false,0,false,0,2048,[]⟩
def frmU (a b:Nat):Frame:=⟨100+(b:Int),100+(a:Int),false,0,false,0,2048,[]⟩
def bkX (k:Nat):Nat→List (List Ent)
 | 0=>List.replicate k []
 | i+1=>(goX (lineN k false) 7 41 [⟨i,0,frmI i⟩] [] (bkX k i)).books
def bookB (bs:List (List Ent)) (k:Nat):Bool:=decide (bs.length=k) && bs.all fun l=>decide (l.length≤30)
def sentB (s:Sent):Bool:=s.ok && decide (s.flt=(0,0))
theorem path_bk : ∀ k,k<13→2≤k→∀ i,i<k→(sentB (goX (lineN k false) 7 41 [⟨i,0,frmI i⟩] [] (bkX k i)) && bookB (bkX k i) k)=true:=by decide +kernel
theorem path_to : ∀ k,k<13→2≤k→∀ a,a<k→∀ b,b<k→(decide (a=b) || sentB (goX (lineN k false) 7 41 [⟨a,0,frmU a b⟩] [] (bkX k k)) && bookB (bkX k k) k && decide ((goX (lineN k false) 7 41 [⟨a,0,frmU a b⟩] [] (bkX k k)).seen.map (·.1)=[(b:Int)]))=true:=by decide +kernel
theorem path_open : ∀ k,k<13→2≤k→((List.range k).all fun b=>(isoP (rawP (lineN k false).links (b:Int))).all fun p=>opX (planS (lineN k false) 0 0 (dCut k k)) b p)=true:=by decide +kernel
theorem frmI_wrong : ∀ i,i<13→(frmI i).wrong=0:=by decide +kernel
theorem frmU_wrong : ∀ a,a<13→∀ b,b<13→(frmU a b).wrong=0:=by decide +kernel
end Go.Proofs.YtcdhlofhhcgohaaGreat
