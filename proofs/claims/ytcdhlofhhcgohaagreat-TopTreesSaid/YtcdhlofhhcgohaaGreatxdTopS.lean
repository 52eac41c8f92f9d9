/- Contract: hedgetop's send, of a frame to all. -/
import Derived.Test.YtcdhlofhhcgohaaGreatxfLanA
import Derived.Test.YtcdhlofhhcgohaaGreatxfTalkOpens
import Derived.Test.YtcdhlofhhcgohaaGreatxcBo1
import Derived.Test.YtcdhlofhhcgohaaGreatxdLnS
namespace Go.Proofs.YtcdhlofhhcgohaaGreat
open Go.RowKit
def ascB : Int→List Int→Bool
 | _,[]=>true
 | m,p::r=>decide (m<p) && decide (p≤30) && ascB p r
def outP (P:List Int) (op:Int→Bool) (port:Int):List Int :=
 if port=0∨op port=true then(0::P).filter fun q => !decide (q=port) && (decide (q=0) || op q)else []
def stepP (ls:List Link) (b:Int) (outs:List Int):List (Int×Int):=outs.filterMap fun q=>if q=0 then none else acrossS ls b q
def seesP (b:Int) (outs:List Int):List Int:=outs.filterMap fun q=>if q=0 then some b else none
def fldP (ls:List Link) (op:Nat→Int→Bool):Nat→List (Int×Int)→Option (List Int)
 | _,[]=>some []
 | 0,_::_=>none
 | k+1,c::r=>if(c.2=0∨c.2∈isoP (rawP ls c.1))∧ascB 0 (isoP (rawP ls c.1))=true then
   (fldP ls op k (r++stepP ls c.1 (outP (isoP (rawP ls c.1)) (op c.1.toNat) c.2))).map fun s=>seesP c.1 (outP (isoP (rawP ls c.1)) (op c.1.toNat) c.2)++s
  else none
theorem gate_w1 {t:List (List Mind)} {b vid p:Int} (ht:t.length≤16) (hv:1≤vid∧vid≤4094) (h0:0≤p) (h1:p≤30):(gateOf t b vid p).wrong1=0:=by
 have e1:¬(gateOf t b vid p).bad:=by
  show ¬(p<0∨30<p∨(if p=0 then vid else 0)<0∨4094<(if p=0 then vid else 0))
  split<;>omega
 have e2:¬ 16<(gateOf t b vid p).opens.length:=by
  show ¬ 16<(opensOf t b p).length
  unfold opensOf;rw[List.length_map,List.length_range];omega
 unfold Gate.wrong1
 rw[if_neg e1,if_neg e2]
 show waysG 0 [vid]=0
 rw[waysG,if_neg (by omega),if_neg (by omega)];rfl
theorem asc_gates {t:List (List Mind)} {b vid:Int} (ht:t.length≤16) (hv:1≤vid∧vid≤4094):∀ (P:List Int) (m:Int) (i:Nat),0≤m→ascB m P=true→(gatesW (some m) i (P.map (gateOf t b vid))).1=0
 | [],_,_,_,_=>rfl
 | p::r,m,i,hm,h=>by
  rw[ascB]at h
  simp only[Bool.and_eq_true,decide_eq_true_eq]at h
  obtain⟨⟨h1,h2⟩,h3⟩:=h
  rw[List.map_cons,gatesW]
  have hw:=gate_w1 (t:=t) (b:=b) (vid:=vid) (p:=p) ht hv (by omega) h2
  rw[if_neg (by rw[hw];simp),if_neg (by show ¬decide (p≤m)=true;rw[decide_eq_true_eq];omega)]
  exact asc_gates ht hv r p (i+1) (by omega) h3
theorem gates_right {n:Net} {t:List (List Mind)} {b vid:Int} (ht:t.length≤16) (hv:1≤vid∧vid≤4094) (h:ascB 0 (portsOf n.links b)=true):(wrongG (gatesOf n t b vid)).1=0:=by
 unfold wrongG gatesOf
 rw[gatesW]
 have hw:=gate_w1 (t:=t) (b:=b) (vid:=vid) (p:=0) ht hv (by omega) (by omega)
 rw[if_neg (by rw[hw];simp),if_neg (by simp)]
 exact asc_gates ht hv _ _ _ (Int.le_refl _) h
theorem gateAt_map {t:List (List Mind)} {b vid p:Int}:∀ {P:List Int},p∈P→gateAt (P.map (gateOf t b vid)) p=some (gateOf t b vid p)
 | q::r,h=>by
  unfold gateAt
  by_cases hq:q=p
  ·subst hq
   rw[List.map_cons,List.find?_cons_of_pos (by simp[gateOf])]
  ·rw[List.map_cons,List.find?_cons_of_neg (by show ¬decide (q=p)=true;rw[decide_eq_true_eq];exact hq)]
   exact gateAt_map ((List.mem_cons.1 h).resolve_left (fun e=>hq e.symm))
theorem passes_gate {t:List (List Mind)} {b vid p:Int} {r:Region} {T:Nat} (hr:treeOf r.ways vid=T) (hT:T<t.length):(gateOf t b vid p).passes r vid=(decide (p=0) || opensT t T b p):=by
 unfold Gate.passes
 rw[hr]
 have:(opensOf t b p)[T]? = some (decide (p=0) || opensT t T b p):=by unfold opensOf;simp[hT]
 show(decide (vid∈[vid]) && ((opensOf t b p)[(T:Int).toNat]?).getD false)=_
 rw[Int.toNat_natCast,this];simp
structure Flood (n:Net) (t:List (List Mind)) (op:Nat→Int→Bool) (vid:Int) (f:Frame) (R:Region) (T:Nat):Prop where
 g:n.good
 r:∀ b∈n.bridges,b.region=R
 rw:R.wrong=0
 tr:treeOf R.ways vid=T
 tl:T<t.length
 tm:t.length≤16
 op:∀ (b:Nat) p,b<n.bridges.length→p∈portsOf n.links b→opensT t T b p=op b p
 v:1≤vid∧vid≤4094
 ft:f.tagged=false
 fw:f.wrong=0
 fs:(tagF f vid).wrong=0
 fr:reservedB f.dst=false
 fn:f.dst≠f.src
def frmP (f:Frame) (vid:Int) (q:Int):OutF:=(q,if q=0 then bareF f else tagF f vid)
theorem flood_relay {n:Net} {t:List (List Mind)} {op:Nat→Int→Bool} {vid frm:Int} {f:Frame} {R:Region} {T:Nat} (h:Flood n t op vid f R T) {bs:List (List Ent)} {c:Come} (hc:ComeF n frm vid f c) (h0:0≤c.br) (h1:c.br<n.bridges.length)
  (hb:(wrongB (bookAt bs c.br)).1=0) (hl:lookS (bookAt bs c.br) vid f.dst=(0,false)) (hp:c.port=0∨c.port∈portsOf n.links c.br) (ha:ascB 0 (portsOf n.links c.br)=true) :
  (relayC n t vid bs c).2.2=0∧((wrongB (relayC n t vid bs c).2.1).1=0∧lookS (relayC n t vid bs c).2.1 vid f.dst=(0,false))∧(relayC n t vid bs c).1=(outP (portsOf n.links c.br) (op c.br.toNat) c.port).map (frmP f vid):=by
 obtain⟨b,hbr⟩:∃ b,n.bridges[c.br.toNat]? = some b:=⟨_,List.getElem?_eq_getElem (by omega)⟩
 have hreg:regAt n c.br=R:=by rw[regAt_of hbr];exact h.r b (List.mem_of_getElem? hbr)
 have hcf:c.f.wrong=0∧c.f.dst=f.dst∧c.f.src=f.src:=by
  rcases hc.f with⟨_,_,e⟩|⟨_,e⟩<;>rw[e]
  ·exact⟨h.fw,rfl,rfl⟩
  ·exact⟨h.fs,rfl,rfl⟩
 have hall:AllRight (regAt n c.br) (gatesOf n t c.br vid) (bookAt bs c.br) c.f:=⟨by rw[hreg];exact h.rw,gates_right h.tm h.v ha,hb,hcf.1⟩
 have hgt:gateAt (gatesOf n t c.br vid) c.port=some (gateOf t c.br vid c.port):=by
  have:=gateAt_map (t:=t) (b:=c.br) (vid:=vid) (p:=c.port) (P:=0::portsOf n.links c.br) (by simpa using hp)
  exact this
 have hop:∀ q,q=0∨q∈portsOf n.links c.br→(gateOf t c.br vid q).passes (regAt n c.br) vid=(decide (q=0) || op c.br.toNat q):=fun q hq=>by
  rw[hreg,passes_gate h.tr h.tl]
  rcases hq with rfl|hq
  ·rfl
  ·have ec:((c.br.toNat:Nat):Int)=c.br:=by omega
   have:=h.op c.br.toNat q (by omega) (by rw[ec];exact hq)
   rw[ec]at this
   rw[this]
 have hbr:=right_of hb
 have hlr:=learn_right (v:=vid) (a:=c.f.src) (p:=c.port) hbr
 have hlk:lookS (learnL (bookAt bs c.br) vid c.f.src c.port) vid c.f.dst=(0,false):=by
  rw[learn_other hbr.s (by rw[hcf.2.1,hcf.2.2];exact h.fn),hcf.2.1];exact hl
 have hw:=way_f (t:=t) h.v.1 h.ft hc
 unfold relayC
 rw[relayS_right hall,relayT_some hgt]
 unfold relayG blockB
 rw[hw,hop c.port hp,hcf.2.1,h.fr,decide_eq_false (show ¬vid=0 by have:=h.v;omega)]
 unfold outP
 rw[←hcf.2.1,hlk]
 by_cases hopen:c.port=0∨op c.br.toNat c.port=true
 ·rw[if_neg (by rcases hopen with e|e<;>simp[e]),if_pos hopen]
  refine⟨rfl,⟨by simp only;rw[right_w hlr.1],hlk⟩,?_⟩
  show outsG _ _ _ _ _ _ _=_
  unfold outsG gatesOf
  rw[←List.map_cons,List.filter_map,List.map_map]
  have e1:∀ q∈0::portsOf n.links c.br,((fun g => !skipG (regAt n c.br) vid c.port 0 false g) ∘ gateOf t c.br vid) q=(!decide (q=c.port) && (decide (q=0) || op c.br.toNat q)):=fun q hq=>by
   show(!skipG _ _ _ _ _ (gateOf t c.br vid q))=_
   unfold skipG
   rw[hop q (by simpa using hq),show(gateOf t c.br vid q).port=q from rfl];simp
  rw[List.filter_congr e1]
  refine List.map_congr_left (fun q hq=>?_)
  obtain⟨_,hq2⟩:=List.mem_filter.1 hq
  have hne:q≠c.port:=by
   simp only[Bool.and_eq_true,Bool.not_eq_true',decide_eq_false_iff_not]at hq2
   exact hq2.1
  show(q,leaveF (gateOf t c.br vid q) c.f vid)=frmP f vid q
  obtain⟨k1,k2⟩:=leave_f (t:=t) h.v.1 h.ft hc hne
  unfold frmP
  by_cases h0:q=0
  ·rw[if_pos h0,k1 h0]
  ·rw[if_neg h0,k2 h0]
 ·rw[if_pos (by
   have e1:¬c.port=0:=fun e=>hopen (.inl e)
   have e2:op c.br.toNat c.port=false:=by simpa using fun e=>hopen (.inr e)
   simp[e1,e2]),if_neg hopen]
  exact⟨rfl,⟨hb,by rw[hcf.2.1];exact hl⟩,rfl⟩
theorem comes_cons0 {n:Net} {b:Int} {o:OutF} {l:List OutF} (h:o.1=0):comesOf n b (o::l)=comesOf n b l:=by
 unfold comesOf;rw[List.filterMap_cons,if_pos h]
theorem comes_cons {n:Net} {b:Int} {o:OutF} {l:List OutF} (h:o.1≠0):comesOf n b (o::l)=(match acrossS n.links b o.1 with|none=>comesOf n b l|some q=>⟨q.1,q.2,o.2⟩::comesOf n b l):=by
 unfold comesOf;rw[List.filterMap_cons,if_neg h]
 cases acrossS n.links b o.1<;>rfl
theorem comes_map {n:Net} {b vid:Int} {f:Frame} (L:List Int):(comesOf n b (L.map (frmP f vid))).map (fun c=>(c.br,c.port))=stepP n.links b L:=by
 induction L with
 | nil=>rfl
 | cons q r ih =>
  by_cases h0:q=0
  ·rw[List.map_cons,comes_cons0 (show(frmP f vid q).1=0 from h0),ih]
   unfold stepP
   rw[List.filterMap_cons,if_pos h0]
  ·rw[List.map_cons,comes_cons (show(frmP f vid q).1≠0 from h0)]
   unfold stepP at ih ⊢
   rw[List.filterMap_cons,if_neg h0,show(frmP f vid q).1=q from rfl]
   cases acrossS n.links b q with
   | none=>exact ih
   | some p=>rw[←ih];rfl
theorem sees_map {b vid:Int} {f:Frame} (L:List Int):(seenOf b (L.map (frmP f vid))).map (·.1)=seesP b L∧∀ x∈seenOf b (L.map (frmP f vid)),x.2=bareF f:=by
 induction L with
 | nil=>exact⟨rfl,fun x hx=>by cases hx⟩
 | cons q r ih =>
  unfold seenOf seesP at ih ⊢
  rw[List.map_cons,List.filterMap_cons,List.filterMap_cons]
  by_cases h0:q=0
  ·subst h0
   refine⟨?_,fun x hx=>?_⟩
   ·show b::_=b::_
    rw[←ih.1]
   ·rcases List.mem_cons.1 hx with rfl|hx
    ·rfl
    ·exact ih.2 x hx
  ·have e:(if(frmP f vid q).1=0 then some (b,(frmP f vid q).2)else none)=none:=if_neg h0
   rw[e,if_neg h0];exact ih
theorem fld_go {n:Net} {t:List (List Mind)} {op:Nat→Int→Bool} {vid frm:Int} {f:Frame} {R:Region} {T:Nat} (h:Flood n t op vid f R T) :
  ∀ (k:Nat) (todo:List Come) (seen:List OutF) (bs:List (List Ent)) (s:List Int),(∀ c∈todo,(0≤c.br∧c.br<n.bridges.length)∧ComeF n frm vid f c)→bs.length=n.bridges.length→(∀ l∈bs,(wrongB l).1=0∧lookS l vid f.dst=(0,false)) →
   fldP n.links op k (todo.map fun c=>(c.br,c.port))=some s→∃ seen' bs',goS n t vid k todo seen bs=⟨seen++seen',bs',true,(0,0)⟩∧seen'.map (·.1)=s∧∀ x∈seen',x.2=bareF f
 | 0,[],seen,bs,s,_,_,_,hs=>by injection hs with hs;subst hs;exact⟨[],bs,by rw[goS,List.append_nil],rfl,fun x hx=>by cases hx⟩
 | k+1,[],seen,bs,s,_,_,_,hs=>by injection hs with hs;subst hs;exact⟨[],bs,by rw[goS,List.append_nil],rfl,fun x hx=>by cases hx⟩
 | 0,_::_,seen,bs,s,_,_,_,hs=>by cases hs
 | k + 1,c::r,seen,bs,s,hc,hbl,hbs,hs=>by
  rw[List.map_cons,fldP,←ports_iso]at hs
  split at hs
  case isFalse=>cases hs
  rename_i hcond
  obtain⟨⟨c0,c1⟩,hcf⟩:=hc c (by simp)
  have hba:bookAt bs c.br∈bs:=by
   unfold bookAt
   rw[List.getElem?_eq_getElem (by omega)]
   exact List.getElem_mem _
  obtain⟨g1,g2,g3⟩:=flood_relay h hcf c0 c1 (hbs _ hba).1 (hbs _ hba).2 hcond.1 hcond.2
  simp only at hs
  generalize outP (portsOf n.links c.br) (op c.br.toNat) c.port=L at hs g3
  obtain⟨s',hs',rfl⟩:=Option.map_eq_some_iff.1 hs
  rw[goS,if_neg (by rw[g1];simp),g3]
  rw[←comes_map (n:=n) (vid:=vid) (f:=f),←List.map_append]at hs'
  obtain ⟨sn,bs',e1,e2,e3⟩:=fld_go h k (r++comesOf n c.br (L.map (frmP f vid))) (seen++seenOf c.br (L.map (frmP f vid))) (bs.set c.br.toNat (relayC n t vid bs c).2.1) s' (fun x hx=>by
   rcases List.mem_append.1 hx with hx|hx
   ·exact hc x (by simp[hx])
   ·obtain⟨o,ho,k1,k2,k3⟩:=mem_comes hx
    obtain⟨q,_,rfl⟩:=List.mem_map.1 ho
    obtain⟨l,hl,_,h4⟩:=across_mem k2
    have hk:=h.g.lk l hl
    have:=hk.a0;have:=hk.a1;have:=hk.b0;have:=hk.b1;have:=hk.pa;have:=hk.pb
    have hp:x.port≠0∧0≤x.br∧x.br<n.bridges.length:=by
     rcases h4 with⟨_,_,e⟩|⟨_,_,e⟩<;>injection e with e1 e2<;>omega
    exact⟨hp.2,⟨.inr ⟨hp.1,by rw[k3];show(frmP f vid q).2=_;unfold frmP;rw[if_neg (show ¬q=0 from k1)]⟩⟩⟩) (by rw[List.length_set];exact hbl) (fun l hl=>by
   rcases List.mem_or_eq_of_mem_set hl with hl|rfl
   ·exact hbs l hl
   ·exact g2) hs'
  refine⟨seenOf c.br (L.map (frmP f vid))++sn,bs',by rw[e1,List.append_assoc],?_,fun x hx=>?_⟩
  ·rw[List.map_append,e2,(sees_map L).1]
  ·rcases List.mem_append.1 hx with hx|hx
   ·exact(sees_map L).2 x hx
   ·exact e3 x hx
end Go.Proofs.YtcdhlofhhcgohaaGreat
namespace Go.Proofs.YtcdhlofhhcgohaaGreat
open Go.RowKit
def seesN (o:Option (List Int)):Nat:=match o with|some s=>s.length|none=>99
theorem ring_fld : ∀ k,k<13→3≤k→∀ j,j<k→seesN (fldP (lineN k true).links (opX (planS (lineN k true) 0 0 (dRing k 0))) 41 [((j:Int),0)])=k-1:=by decide +kernel
theorem down_fld : ∀ k,k<13→3≤k→∀ m,m<k→∀ j,j<k→seesN (fldP (downN k m).links (opX (planS (downN k m) 0 0 (dCut k m))) 41 [((j:Int),0)])=k-1:=by decide +kernel
end Go.Proofs.YtcdhlofhhcgohaaGreat
namespace Go.Proofs.YtcdhlofhhcgohaaGreat
open Go.RowKit
def frmG : Frame:=⟨281474976710655,5,false,0,false,0,2048,[]⟩
theorem frmG_tag {vid:Int} (h:1≤vid∧vid≤4094):(tagF frmG vid).wrong=0:=by
 unfold Frame.wrong
 rw[if_neg (by show ¬((281474976710655:Int)<281474976710655∨(281474976710655:Int)<5);decide),if_neg (by show ¬(5:Int) / 1099511627776 % 2=1;decide),if_neg (by show ¬(true=true∧(vid<0∨4094<vid∨(0:Int)<0∨7<(0:Int)));omega),if_neg (by show ¬((2048:Int)<1536∨65535<(2048:Int)∨(2048:Int)=33024);decide),if_neg (by show ¬ 1500<([]:List UInt8).length;decide)]
theorem flood_of {n:Net} {t:List (List Mind)} {op:Nat→Int→Bool} {vid:Int} {R:Region} {T:Nat} (g:n.good) (r:∀ b∈n.bridges,b.region=R) (rw:R.wrong=0) (tr:treeOf R.ways vid=T) (tl:T<t.length) (tm:t.length≤16)
  (op':∀ (b:Nat) p,b<n.bridges.length→p∈portsOf n.links b→opensT t T b p=op b p) (v:1≤vid∧vid≤4094):Flood n t op vid frmG R T :=
 ⟨g,r,rw,tr,tl,tm,op',v,rfl,by decide +kernel,frmG_tag v,by decide +kernel,by decide⟩
theorem flood_send {n:Net} {t:List (List Mind)} {op:Nat→Int→Bool} {vid frm:Int} {f:Frame} {R:Region} {T:Nat} (h:Flood n t op vid f R T) (h0:0≤frm∧frm<n.bridges.length) {k:Nat} (hk:k<99) (hs:seesN (fldP n.links op 41 [(frm,0)])=k) :
  ∃ seen books,sendR n t (List.replicate n.bridges.length []) frm vid f=⟨seen,books,true,(0,0)⟩∧seen.length=k:=by
 obtain⟨s,hf,rfl⟩:∃ s,fldP n.links op 41 [(frm,0)]=some s∧s.length=k:=by
  cases e:fldP n.links op 41 [(frm,0)]with
  | none=>rw[e]at hs;change 99=k at hs;omega
  | some s=>rw[e]at hs;exact⟨s,rfl,hs⟩
 obtain⟨seen,books,e1,e2,_⟩:=fld_go h 41 [⟨frm,0,f⟩] [] (List.replicate n.bridges.length []) s (fun c hc=>by rw[List.mem_singleton.1 hc];exact⟨h0,⟨.inl ⟨rfl,rfl,rfl⟩⟩⟩) (by simp) (fun l hl=>by rw[List.eq_of_mem_replicate hl];exact⟨rfl,rfl⟩) hf
 refine⟨seen,books,?_,by rw[←e2,List.length_map]⟩
 have hv:=h.v
 unfold sendR
 rw[if_neg (by simp),if_neg (by omega),if_neg (by omega),if_neg (by rw[h.ft];decide),if_neg (by rw[h.fw];decide),if_neg (by
  rw[List.any_eq_true]
  rintro⟨b,hb,hx⟩
  rw[h.r b hb,h.tr,decide_eq_true_eq]at hx
  have:=h.tl
  omega),e1,List.nil_append]
attribute [local irreducible] SStep DW DWin DOps thenQ inBlk loopQ retQ retQG FnF FnG FnI FnM Wk IntKind.wrap IntKind.andI IntKind.orI IntKind.xorI IntKind.andNotI IntKind.shlI IntKind.shrI playA onA ticksN tkN planF portsOf roleF opensT planS sendR
set_option maxHeartbeats 4000000 in
theorem top_send (n:Net) (ht:n.typed) (h0:n.wrong.1=0) (hnb:n.bridges.length≤12) (t:List (List Mind)) (htt:goodT n t) (h1:1≤t.length) (frm vid:Int) {seen:List OutF} {books:List (List Ent)} (hs:sendR n t (List.replicate n.bridges.length []) frm vid frmG=⟨seen,books,true,(0,0)⟩) :
  FnF Tryz.prog 44 [n.v,talkV t,.int .i64 frm,.int .i64 vid] (.tuple [.slice (seen.map outV),.bool true]):=by
 refine fnF_of Tryz.func44 rfl rfl rfl ?_
 simp only[envOf,talkV]
 have hml:(n.bridges.map bridgeV).length=n.bridges.length:=by simp
 rw[←hml]at hs
 have hc:=lan_SendR n ht h0 t htt h1 (List.replicate (n.bridges.map bridgeV).length []) (by rw[List.length_replicate];omega) (fun l hl=>by rw[List.eq_of_mem_replicate hl];decide) frm vid frmG ⟨by decide,by decide,by decide,by decide,by decide,by decide,by decide,by decide,by decide,by decide,by decide⟩
 rw[hs]at hc
 change FnF _ _ _ (.tuple [.slice (seen.map outV),.slice (books.map bookR),.bool true,.agg [.int .i64 0,.int .i64 0]])at hc
 repeat' (first|refine qU ?_|refine qW ?_|((first|apply dX rfl|apply Da rfl rfl|apply Db rfl rfl qN);(focus ((try intro hg);first|exact S_mkD (f:=bookR) (l:=(n.bridges.map bridgeV).length) (c:=(n.bridges.map bridgeV).length) ([]:List Ent) rfl rfl rfl rfl (Nat.le_refl _) (by omega) rfl|exact S_call hc rfl|exact qMo));constructor)|refine qP ?_)
 refine retN (.tmp rfl qF (.tmp rfl qF .nil)) ?_
 rfl
end Go.Proofs.YtcdhlofhhcgohaaGreat
