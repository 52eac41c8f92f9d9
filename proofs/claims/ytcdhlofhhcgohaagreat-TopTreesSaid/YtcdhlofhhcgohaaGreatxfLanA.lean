/- Contracts: chapter 10's two, ticks, alive; what Send answers. -/
import Derived.Test.YtcdhlofhhcgohaaGreatxbApl
import Derived.Test.YtcdhlofhhcgohaaGreatxbKep
import Derived.Test.YtcdhlofhhcgohaaGreatxcBo1
import Derived.Test.YtcdhlofhhcgohaaGreatxdLnS
import Derived.Test.YtcdhlofhhcgohaaGreatxfTalkOpens
namespace Go.Proofs.YtcdhlofhhcgohaaGreat
open Go.RowKit
theorem outs_mem {r:Region} {gs:List Gate} {v port at':Int} {known:Bool} {f:Frame} {o:OutF} (h:o∈outsG r gs v port at' known f):∃ u∈gs,o=(u.port,leaveF u f v)∧u.port≠port∧(known=true→u.port=at')∧u.passes r v=true:=by
 unfold outsG at h
 obtain⟨u,hu,rfl⟩:=List.mem_map.1 h
 obtain⟨h1,h2⟩:=List.mem_filter.1 hu
 refine⟨u,h1,rfl,?_⟩
 unfold skipG at h2
 simp only[Bool.not_eq_true',Bool.or_eq_false_iff,Bool.not_eq_false',decide_eq_false_iff_not]at h2
 refine⟨h2.1.1,fun hk=>?_,h2.2⟩
 have h3:=h2.1.2
 rw[hk]at h3
 simpa using h3
theorem outs_sorted {r:Region} {gs:List Gate} {v port at':Int} {known:Bool} {f:Frame} (hs:gs.Pairwise (fun a b=>a.port<b.port)):(outsG r gs v port at' known f).Pairwise (fun a b=>a.1<b.1):=by
 unfold outsG
 rw[List.pairwise_map]
 exact List.Pairwise.sublist List.filter_sublist hs
structure OutOK (r:Region) (gs:List Gate) (port:Int) (f:Frame) (g:Gate) (v:Int) (outs:List OutF):Prop where
 s:outs.Pairwise (fun a b=>a.1<b.1)
 p:∀ o∈outs,∃ u,u∈gs∧gateAt gs o.1=some u∧o=(u.port,leaveF u f v)∧o.1≠port∧u.passes r v=true∧g.passes r v=true∧0≤o.1
theorem relay_out {r:Region} {gs:List Gate} {l:List Ent} {port:Int} {f:Frame} {g:Gate} (ha:AllRight r gs l f) (_h:gateAt gs port=some g):OutOK r gs port f g (wayOf g f) (relayG r gs l port f g).1:=by
 unfold relayG
 split
 ·exact⟨List.Pairwise.nil,fun o ho=>by cases ho⟩
 ·rename_i hb
  have hgr:=rightG_of ha.g
  refine⟨outs_sorted hgr.s,fun o ho=>?_⟩
  obtain⟨u,hu,rfl,h1,_,h3⟩:=outs_mem ho
  obtain⟨n,hn⟩:=List.getElem?_of_mem hu
  refine⟨u,hu,gateAt_of hgr.s hn,rfl,h1,h3,?_,?_⟩
  ·unfold blockB at hb
   simp only[Bool.or_eq_true,Bool.not_eq_true',not_or,Bool.not_eq_false]at hb
   exact hb.1.2
  ·have:=(hgr.g u hu).b
   unfold Gate.bad at this
   show 0≤u.port
   omega
attribute [local irreducible] SStep DW DWin DOps thenQ inBlk loopQ retQ retQG FnF FnG Wk IntKind.wrap IntKind.andI IntKind.orI IntKind.xorI IntKind.andNotI IntKind.shlI IntKind.shrI Ent.cmp bsG lookS lookE learnL outsG Gate.passes wayOf leaveF gateAt
end Go.Proofs.YtcdhlofhhcgohaaGreat
namespace Go.Proofs.YtcdhlofhhcgohaaGreat
open Go.RowKit
theorem relay_book {r:Region} {gs:List Gate} {l:List Ent} {port:Int} {f:Frame} {g:Gate} (h:rightB l):rightB (relayG r gs l port f g).2.1:=by
 unfold relayG
 split
 ·exact h
 ·exact(learn_right h).1
attribute [local irreducible] SStep DW DWin DOps thenQ inBlk loopQ retQ retQG FnF FnG Wk IntKind.wrap IntKind.andI IntKind.orI IntKind.xorI IntKind.andNotI IntKind.shlI IntKind.shrI Ent.cmp bsG lookS lookE learnL outsG Gate.passes wayOf gateAt leaveF
end Go.Proofs.YtcdhlofhhcgohaaGreat
namespace Go.Proofs.YtcdhlofhhcgohaaGreat
open Go.RowKit
theorem sent_bad {n:Net} {t:List (List Mind)} {vid:Int}:∀ (k:Nat) (todo:List Come) (seen:List OutF) (bs:List (List Ent)),(goS n t vid k todo seen bs).ok=false→(goS n t vid k todo seen bs).seen=[]∧(goS n t vid k todo seen bs).books=[]
 | 0,[],seen,bs,h=>by cases h
 | k+1,[],seen,bs,h=>by cases h
 | 0,_::_,seen,bs,_=>⟨rfl,rfl⟩
 | k+1,c::r,seen,bs,h=>by
  rw[goS]at h ⊢
  split at h
  ·rename_i he
   rw[if_pos he];exact⟨rfl,rfl⟩
  ·rename_i he
   rw[if_neg he]
   exact sent_bad k _ _ _ h
theorem sent_flt {n:Net} {t:List (List Mind)} {vid:Int}:∀ (k:Nat) (todo:List Come) (seen:List OutF) (bs:List (List Ent)),(goS n t vid k todo seen bs).ok=true→(goS n t vid k todo seen bs).flt=(0,0)
 | 0,[],seen,bs,h=>rfl
 | k+1,[],seen,bs,h=>rfl
 | 0,_::_,seen,bs,h=>by cases h
 | k+1,c::r,seen,bs,h=>by
  rw[goS]at h ⊢
  split at h
  ·cases h
  ·rename_i he
   rw[if_neg he]
   exact sent_flt k _ _ _ h
theorem goS_inv {n:Net} {t:List (List Mind)} {vid:Int} (I:Come→Prop) (J:OutF→Prop) (B:List (List Ent)→Prop)
  (step:∀ bs c,B bs→I c→(relayC n t vid bs c).2.2=0→(∀ c'∈comesOf n c.br (relayC n t vid bs c).1,I c')∧(∀ s∈seenOf c.br (relayC n t vid bs c).1,J s)∧B (bs.set c.br.toNat (relayC n t vid bs c).2.1)) :
  ∀ (k:Nat) (todo:List Come) (seen:List OutF) (bs:List (List Ent)),(∀ c∈todo,I c)→(∀ s∈seen,J s)→B bs→(goS n t vid k todo seen bs).ok=true→(∀ s∈(goS n t vid k todo seen bs).seen,J s)∧B (goS n t vid k todo seen bs).books
 | 0,[],seen,bs,_,h2,h3,_=>⟨h2,h3⟩
 | k+1,[],seen,bs,_,h2,h3,_=>⟨h2,h3⟩
 | 0,_::_,seen,bs,_,_,_,h=>by cases h
 | k+1,c::r,seen,bs,h1,h2,h3,h=>by
  rw[goS]at h ⊢
  split at h
  ·cases h
  ·rename_i he
   rw[if_neg he]
   obtain⟨s1,s2,s3⟩:=step bs c h3 (h1 c (by simp)) (Decidable.not_not.1 he)
   refine goS_inv I J B step k _ _ _ (fun x hx=>?_) (fun x hx=>?_) s3 h
   ·rcases List.mem_append.1 hx with hx|hx
    ·exact h1 x (by simp[hx])
    ·exact s1 x hx
   ·rcases List.mem_append.1 hx with hx|hx
    ·exact h2 x hx
    ·exact s2 x hx
theorem mem_comes {n:Net} {b:Int} {outs:List OutF} {c:Come} (h:c∈comesOf n b outs):∃ o∈outs,o.1≠0∧acrossS n.links b o.1=some (c.br,c.port)∧c.f=o.2:=by
 unfold comesOf at h
 obtain⟨o,ho,h⟩:=List.mem_filterMap.1 h
 split at h
 ·cases h
 ·rename_i h0
  obtain⟨q,hq,rfl⟩:=Option.map_eq_some_iff.1 h
  exact⟨o,ho,h0,hq,rfl⟩
theorem mem_seen {b:Int} {outs:List OutF} {s:OutF} (h:s∈seenOf b outs):∃ o∈outs,o.1=0∧s=(b,o.2):=by
 unfold seenOf at h
 obtain⟨o,ho,h⟩:=List.mem_filterMap.1 h
 split at h
 ·rename_i h0
  injection h with h
  exact⟨o,ho,h0,h.symm⟩
 ·cases h
theorem across_mem : ∀ {ls:List Link} {b p:Int} {q:Int×Int},acrossS ls b p=some q→∃ l∈ls,l.up=true∧((l.a=b∧l.pa=p∧q=(l.b,l.pb))∨(l.b=b∧l.pb=p∧q=(l.a,l.pa)))
 | [],_,_,_,h=>by cases h
 | l::r,b,p,q,h=>by
  rw[acrossS]at h
  split at h
  ·rename_i hc
   injection h with h
   exact⟨l,by simp,hc.1,.inl ⟨hc.2.1,hc.2.2,h.symm⟩⟩
  ·split at h
   ·rename_i hc
    injection h with h
    exact⟨l,by simp,hc.1,.inr ⟨hc.2.1,hc.2.2,h.symm⟩⟩
   ·obtain⟨x,hx,h2⟩:=across_mem h
    exact⟨x,by simp[hx],h2⟩
theorem gates_mem {n:Net} {t:List (List Mind)} {b vid:Int} {g:Gate} (h:g∈gatesOf n t b vid):g=gateOf t b vid g.port:=by
 unfold gatesOf at h
 rcases List.mem_cons.1 h with rfl|h
 ·rfl
 ·obtain⟨p,_,rfl⟩:=List.mem_map.1 h
  rfl
theorem gateAt_eq {n:Net} {t:List (List Mind)} {b vid p:Int} {g:Gate} (h:gateAt (gatesOf n t b vid) p=some g):g=gateOf t b vid p:=by
 obtain⟨h1,h2⟩:=gateAt_mem h
 have:=gates_mem h1
 rw[h2]at this
 exact this
structure Well (n:Net) (t:List (List Mind)) (vid:Int) (bs:List (List Ent)) (c:Come):Prop where
 b:(wrongB (bookAt bs c.br)).1=0
 b':(wrongB (relayC n t vid bs c).2.1).1=0
 f:c.f.wrong=0
 o:∀ o∈(relayC n t vid bs c).1,o.1≠c.port∧0≤o.1∧o.2=leaveF (gateOf t c.br vid o.1) c.f (wayOf (gateOf t c.br vid c.port) c.f) ∧
  (gateOf t c.br vid o.1).passes (regAt n c.br) (wayOf (gateOf t c.br vid c.port) c.f)=true∧(gateOf t c.br vid c.port).passes (regAt n c.br) (wayOf (gateOf t c.br vid c.port) c.f)=true
theorem well_of {n:Net} {t:List (List Mind)} {vid:Int} {bs:List (List Ent)} {c:Come} (h:(relayC n t vid bs c).2.2=0):Well n t vid bs c:=by
 unfold relayC at h
 rcases relay_cases (regAt n c.br) (gatesOf n t c.br vid) (bookAt bs c.br) c.port c.f with⟨h1,_⟩|⟨ha,g,hg,he⟩
 ·exact absurd h h1
 ·have hge:=gateAt_eq hg
  subst hge
  refine⟨ha.b,?_,ha.f,fun o ho=>?_⟩
  ·unfold relayC
   rw[he,right_w (relay_book (right_of ha.b))]
  ·unfold relayC at ho
   rw[he]at ho
   obtain⟨u,hu,hgu,h1,h2,h3,h4,h5⟩:=(relay_out ha hg).p o ho
   have hu:=gateAt_eq hgu
   subst hu
   rw[h1]
   rw[h1]at h2 h5
   exact⟨h2,h5,rfl,h3,h4⟩
def tagF (f:Frame) (v:Int):Frame:=⟨f.dst,f.src,true,0,false,v,f.typ,f.data⟩
def bareF (f:Frame):Frame:=⟨f.dst,f.src,false,0,false,0,f.typ,f.data⟩
structure ComeF (n:Net) (frm vid:Int) (f:Frame) (c:Come):Prop where
 f:(c.port=0∧c.br=frm∧c.f=f)∨(c.port≠0∧c.f=tagF f vid)
theorem way_f {t:List (List Mind)} {frm vid:Int} {f:Frame} {n:Net} {c:Come} (hv:1≤vid) (hf:f.tagged=false) (h:ComeF n frm vid f c):wayOf (gateOf t c.br vid c.port) c.f=vid:=by
 unfold wayOf
 rcases h.f with⟨h1,_,h3⟩|⟨h1,h3⟩
 ·rw[h3,hf,if_neg (by simp)]
  unfold gateOf
  rw[if_pos h1]
 ·rw[h3,if_pos (by unfold tagF;exact⟨rfl,by simp only;omega⟩)];rfl
theorem leave_f {t:List (List Mind)} {frm vid p:Int} {f:Frame} {n:Net} {c:Come} (hv:1≤vid) (hf:f.tagged=false) (h:ComeF n frm vid f c) (hp:p≠c.port):(p=0→leaveF (gateOf t c.br vid p) c.f vid=bareF f)∧(p≠0→leaveF (gateOf t c.br vid p) c.f vid=tagF f vid):=by
 constructor
 ·intro h0
  unfold leaveF gateOf
  rw[if_pos (by simp only;rw[if_pos h0])]
  rcases h.f with⟨h1,_,h3⟩|⟨h1,h3⟩
  ·omega
  ·rw[h3];rfl
 ·intro h0
  unfold leaveF gateOf
  rw[if_neg (by simp only;rw[if_neg h0];omega)]
  rcases h.f with⟨h1,_,h3⟩|⟨h1,h3⟩
  ·rw[h3,hf];unfold tagF;simp
  ·rw[h3];rfl
structure Books (bs0 bs:List (List Ent)):Prop where
 l:bs.length=bs0.length
 b:∀ (i:Nat) l0 l,bs0[i]? = some l0→bs[i]? = some l→l=l0∨((wrongB l0).1=0∧(wrongB l).1=0)
theorem seen_frames {n:Net} {t:List (List Mind)} {vid frm:Int} {f:Frame} (hv:1≤vid) (hf:f.tagged=false) {bs0:List (List Ent)} (hb:bs0.length=n.bridges.length) (hg:n.good) (h0:0≤frm∧frm<n.bridges.length) {k:Nat} (hok:(goS n t vid k [⟨frm,0,f⟩] [] bs0).ok=true) :
  (∀ s∈(goS n t vid k [⟨frm,0,f⟩] [] bs0).seen,(0≤s.1∧s.1<n.bridges.length)∧s.2=bareF f)∧Books bs0 (goS n t vid k [⟨frm,0,f⟩] [] bs0).books:=by
 refine goS_inv (fun c=>(0≤c.br∧c.br<n.bridges.length)∧ComeF n frm vid f c) (fun s=>(0≤s.1∧s.1<n.bridges.length)∧s.2=bareF f) (Books bs0) (fun bs c hbs ⟨hcb,hc⟩ he=>?_) k _ _ _ (fun c hc=>by rw[List.mem_singleton.1 hc];exact⟨h0,⟨.inl ⟨rfl,rfl,rfl⟩⟩⟩) (fun s hs=>by cases hs) ⟨rfl,fun i l0 l h1 h2=>.inl (by rw[h1]at h2;injection h2 with h2;exact h2.symm)⟩ hok
 have hw:=well_of he
 refine⟨fun c' hc'=>?_,fun s hs=>?_,⟨by rw[List.length_set];exact hbs.l,fun i l0 l h1 h2=>?_⟩⟩
 ·obtain⟨o,ho,h1,h2,h3⟩:=mem_comes hc'
  obtain⟨g1,g2,g3,_⟩:=hw.o o ho
  rw[way_f hv hf hc]at g3
  obtain⟨l,hl,_,h4⟩:=across_mem h2
  have hk:=hg.lk l hl
  have:=hk.a0;have:=hk.a1;have:=hk.b0;have:=hk.b1;have:=hk.pa;have:=hk.pb
  have hp:c'.port≠0∧0≤c'.br∧c'.br<n.bridges.length:=by
   rcases h4 with⟨_,_,e⟩|⟨_,_,e⟩<;>injection e with e1 e2<;>omega
  exact⟨hp.2,⟨.inr ⟨hp.1,by rw[h3,g3];exact(leave_f hv hf hc g1).2 h1⟩⟩⟩
 ·obtain⟨o,ho,h1,rfl⟩:=mem_seen hs
  obtain⟨g1,g2,g3,_⟩:=hw.o o ho
  rw[way_f hv hf hc]at g3
  exact⟨hcb,by show o.2=_;rw[g3];exact(leave_f hv hf hc g1).1 h1⟩
 ·rw [List.getElem?_set]at h2
  split at h2
  ·rename_i hi
   split at h2
   ·injection h2 with h2
    subst h2
    obtain⟨l',hl'⟩:∃ l',bs[i]? = some l':=⟨_,List.getElem?_eq_getElem (by rw[hbs.l,hb];omega)⟩
    have hba:bookAt bs c.br=l':=by unfold bookAt;rw[hi,hl'];rfl
    have h3:=hw.b
    rw[hba]at h3
    rcases hbs.b i l0 l' h1 hl' with rfl|⟨h4,_⟩
    ·exact .inr ⟨h3,hw.b'⟩
    ·exact .inr ⟨h4,hw.b'⟩
   ·cases h2
  ·exact hbs.b i l0 l h1 h2
def inReg (n:Net) (i:Nat) (p:Int):Prop:=∃ x∈n.links,((x.a.toNat=i∧x.pa=p)∨(x.b.toNat=i∧x.pb=p))∧(idsR n.bridges)[x.a.toNat]? = (idsR n.bridges)[x.b.toNat]?
def CalmR (n:Net) (t:List (List Mind)):Prop:=∀ l∈t,∀ i j,0<cAt (mAt l i) j→∃ p,(portsOf n.links i)[j]? = some p∧inReg n i p
theorem inReg_kin {n m:Net} (h:Kin n m) {i:Nat} {p:Int} (hr:inReg n i p):inReg m i p:=by
 obtain⟨x,hx,h1,h2⟩:=hr
 obtain⟨j,hj⟩:=List.getElem?_of_mem hx
 have e:(m.links.map keyL)[j]? = some (keyL x):=by rw[h.lk,List.getElem?_map,hj];rfl
 rw[List.getElem?_map]at e
 obtain⟨y,hy,he⟩:=Option.map_eq_some_iff.1 e
 unfold keyL at he
 simp only[Prod.mk.injEq]at he
 obtain⟨⟨e1,e2⟩,e3,e4⟩:=he
 exact⟨y,List.mem_of_getElem? hy,by rw[e1,e2,e3,e4];exact h1,by rw[h.ids,e1,e3];exact h2⟩
theorem calmR_kin {n m:Net} (h:Kin n m) {t:List (List Mind)} (hc:CalmR n t):CalmR m t:=fun l hl i j hp=>by
 obtain⟨p,h1,h2⟩:=hc l hl i j hp
 exact⟨p,by rw[h.ports];exact h1,inReg_kin h h2⟩
theorem calmR_tick {n:Net} (_h:n.good) {t:List (List Mind)} (ht:goodT n t):CalmR n (tickN n t):=fun l hl i j hp=>by
 unfold tickN at hl
 obtain⟨k,hk,rfl⟩:=List.mem_map.1 hl
 have hk:=List.mem_range.1 hk
 rw[List.getElem?_eq_getElem hk,Option.getD_some]at hp
 have hlk:=(ht.m t[k] (List.getElem_mem hk)).1
 have hi:i<t[k].length:=Classical.byContradiction fun hn=>by
  have:mAt (tickT n k t[k]) i = .zero:=by
   unfold mAt tickT
   rw[List.getElem?_eq_none (by simp;omega)];rfl
  rw[this]at hp
  simp[cAt,Mind.zero]at hp
 have hm:mAt (tickT n k t[k]) i=mindOf n k i (endsOf n i) t[k]:=tkN_at (n:=n) (tree:=k) (l:=t[k]) (k:=0) hi
 rw[hm]at hp
 have hj:j<(portsOf n.links i).length:=Classical.byContradiction fun hn=>by
  have:cAt (mindOf n k i (endsOf n i) t[k]) j=0:=by
   unfold cAt
   show((calmsOf _ _)[j]?).getD 0=0
   rw[List.getElem?_eq_none (by rw[calmsOf_len,rolesP_len];omega)];rfl
  omega
 rw[mindOf_calm hj]at hp
 have hr:=calmOf_pos hp
 have hpj:=List.getElem?_eq_getElem hj
 refine⟨_,hpj,?_⟩
 have hrr:rAt (mindOf n k i (endsOf n i) t[k]) j≠0:=by omega
 unfold rAt at hrr
 have e:(mindOf n k i (endsOf n i) t[k]).roles=rolesP (endsOf n i) (mindOf n k i (endsOf n i) t[k]).vec (mindOf n k i (endsOf n i) t[k]).rootPort (hears (endsOf n i) t[k]) (portsOf n.links i):=rfl
 rw[e]at hrr
 unfold rolesP at hrr
 rw[List.getElem?_map,hpj,Option.map_some,Option.getD_some]at hrr
 generalize (portsOf n.links i)[j]=p at hrr
 have hany:(endsOf n i).any (fun e=>decide (e.port=p))=true:=by
  cases hq:(endsOf n i).any (fun e=>decide (e.port=p))with
  | true=>rfl
  | false=>rw[hq]at hrr;simp at hrr
 obtain⟨x,hx,hxp⟩:=List.any_eq_true.1 hany
 have hxp:x.port=p:=by simpa using hxp
 have hx:=mem_endsOf.1 hx
 unfold rawE endAt at hx
 obtain⟨y,hy,hx⟩:=List.mem_flatMap.1 hx
 have hyl:=(List.mem_filter.1 hy).2
 unfold liveB at hyl
 rw[Bool.and_eq_true,decide_eq_true_eq]at hyl
 refine⟨y,live_sub hy,?_,hyl.2⟩
 rcases List.mem_append.1 hx with hx|hx
 ·split at hx
  ·rename_i ha
   simp only[List.mem_singleton]at hx
   subst hx
   exact .inl ⟨by omega,hxp⟩
  ·cases hx
 ·split at hx
  ·rename_i ha
   simp only[List.mem_singleton]at hx
   subst hx
   exact .inr ⟨by omega,hxp⟩
  ·cases hx
theorem calmR_ticks {n:Net} (h:n.good) {t:List (List Mind)} (ht:goodT n t) (hc:CalmR n t):∀ k,CalmR n (ticksN n t k)
 | 0=>hc
 | k+1=>calmR_tick h (ticksN_good ht k)
theorem calmR_start {n:Net} (trees:Nat):CalmR n (start0 n trees):=fun l hl i j hp=>by
 exfalso
 unfold start0 at hl
 obtain⟨k,_,rfl⟩:=List.mem_map.1 hl
 unfold cAt mAt at hp
 rw[List.getElem?_map]at hp
 cases hi:(List.range n.bridges.length)[i]? with
 | none=>rw[hi]at hp;simp[Mind.zero]at hp
 | some i' =>
  rw[hi]at hp
  simp only[Option.map_some,Option.getD_some,mind0]at hp
  rw[List.getElem?_map]at hp
  cases hq:(portsOf n.links i')[j]? with
  | none=>rw[hq]at hp;simp at hp
  | some _=>rw[hq]at hp;simp at hp
theorem calmR_loop : ∀ (l:List Doing) (i:Nat) (n:Net) (t:List (List Mind)),n.good→goodT n t→CalmR n t→∀ r,(onLoop i l n t).1=some r→CalmR r.1 r.2
 | [],i,n,t,h,ht,ho,r,hr=>by
  rw[onLoop]at hr
  injection hr with hr
  subst hr;exact ho
 | d::l,i,n,t,h,ht,ho,r,hr=>by
  rw[onLoop]at hr
  by_cases h1:d.kind=1
  ·rw[if_pos h1]at hr
   by_cases h2:d.n<0∨200<d.n
   ·rw[if_pos h2]at hr;cases hr
   ·rw[if_neg h2]at hr
    exact calmR_loop l _ _ _ h (ticksN_good ht _) (calmR_ticks h ht ho _) r hr
  ·rw[if_neg h1]at hr
   have hg:=doS_good h d
   have hk:=doS_kin n d
   generalize doS n d=q at hr hg hk
   obtain⟨n',e⟩:=q
   by_cases h2:e≠0
   ·simp only[if_pos h2]at hr;cases hr
   ·simp only[if_neg h2]at hr
    exact calmR_loop l (i+1) n' t (hg (by simpa using h2)) (goodT_kin hk ht) (calmR_kin hk ho) r hr
theorem open_reg {n:Net} {t:List (List Mind)} (hg:goodT n t) (hc:CalmR n t) {k b p:Int} (h:opensT t k b p=true):0≤b∧inReg n b.toNat p:=by
 unfold opensT at h
 split at h
 ·cases h
 ·rename_i hq
  simp only at h
  split at h
  ·cases h
  ·rename_i hb
   have hk:k.toNat<t.length:=by omega
   rw[List.getElem?_eq_getElem hk,Option.getD_some]at h hb
   have hmem:t[k.toNat]∈t:=List.getElem_mem hk
   have hbl:b.toNat<t[k.toNat].length:=by omega
   have hgm:=(hg.m _ hmem).2 b.toNat _ (mAt_get hbl)
   unfold opensM at h
   cases hx:ixI p (mAt t[k.toNat] b.toNat).ports with
   | none=>rw[hx]at h;cases h
   | some j =>
    rw[hx]at h
    simp only[Bool.and_eq_true,decide_eq_true_eq]at h
    obtain⟨p',h1,h2⟩:=hc _ hmem b.toNat j (by omega)
    have h3:=ixI_some hx
    rw[hgm.p,h1]at h3
    injection h3 with h3
    subst h3
    exact⟨by omega,h2⟩
theorem seen_region {n:Net} {t:List (List Mind)} {vid frm:Int} {f:Frame} (hg:n.good) (htt:goodT n t) (hc:CalmR n t) {bs0:List (List Ent)} (h0:0≤frm∧frm<n.bridges.length) {k:Nat} (hok:(goS n t vid k [⟨frm,0,f⟩] [] bs0).ok=true) :
  ∀ s∈(goS n t vid k [⟨frm,0,f⟩] [] bs0).seen,(0≤s.1∧s.1<n.bridges.length)∧(idsR n.bridges)[s.1.toNat]? = (idsR n.bridges)[frm.toNat]? := by
 refine(goS_inv (fun c=>(0≤c.br∧c.br<n.bridges.length)∧(idsR n.bridges)[c.br.toNat]? = (idsR n.bridges)[frm.toNat]?) (fun s=>(0≤s.1∧s.1<n.bridges.length)∧(idsR n.bridges)[s.1.toNat]? = (idsR n.bridges)[frm.toNat]?) (fun _=>True) (fun bs c _ ⟨hcb,hce⟩ he=>?_) k _ _ _ (fun c hc=>by rw[List.mem_singleton.1 hc];exact⟨h0,rfl⟩) (fun s hs=>by cases hs) trivial hok).1
 have hw:=well_of he
 refine⟨fun c' hc'=>?_,fun s hs=>?_,trivial⟩
 ·obtain ⟨o,ho,h1,h2,h3⟩:=mem_comes hc'
  obtain⟨g1,g2,_,g4,_⟩:=hw.o o ho
  have hop:∃ k:Int,opensT t k c.br o.1=true:=by
   unfold Gate.passes at g4
   rw[Bool.and_eq_true]at g4
   have g5:=g4.2
   have e:(gateOf t c.br vid o.1).opens=opensOf t c.br o.1:=rfl
   rw[e]at g5
   unfold opensOf at g5
   rw[List.getElem?_map]at g5
   cases hk:(List.range t.length)[(treeOf (regAt n c.br).ways (wayOf (gateOf t c.br vid c.port) c.f)).toNat]? with
   | none=>rw[hk]at g5;cases g5
   | some j =>
    rw[hk,Option.map_some,Option.getD_some,decide_eq_false h1,Bool.false_or]at g5
    exact⟨j,g5⟩
  obtain⟨kk,hop⟩:=hop
  obtain⟨_,x,hx,hxs,hxr⟩:=open_reg htt hc hop
  obtain⟨l,hl,_,h4⟩:=across_mem h2
  have hk:=hg.lk l hl
  have hkx:=hg.lk x hx
  have:=hk.a0;have:=hk.a1;have:=hk.b0;have:=hk.b1
  have:=hkx.a0;have:=hkx.b0
  have hsl:((c.br,o.1),(⟨0,0,c'.br,c'.port⟩:End).other)∈n.links.flatMap (fun l=>[((l.a,l.pa),l.b),((l.b,l.pb),l.a)]):=by
   refine List.mem_flatMap.2 ⟨l,hl,?_⟩
   rcases h4 with⟨e1,e2,e3⟩|⟨e1,e2,e3⟩<;>injection e3 with e3 e4<;>rw[←e1,←e2,e3]<;>simp
  have hone:∀ (y1 y2:(Int×Int)×Int),y1∈n.links.flatMap (fun l=>[((l.a,l.pa),l.b),((l.b,l.pb),l.a)])→y2∈n.links.flatMap (fun l=>[((l.a,l.pa),l.b),((l.b,l.pb),l.a)])→y1.1=y2.1→y1=y2:=fun y1 y2 m1 m2 e=>by
   have hn:((n.links.flatMap (fun l=>[((l.a,l.pa),l.b),((l.b,l.pb),l.a)])).map (·.1)).Nodup:=by
    have e:(n.links.flatMap (fun l=>[((l.a,l.pa),l.b),((l.b,l.pb),l.a)])).map (·.1)=sidesP n.links:=by
     unfold sidesP;rw[List.map_flatMap];rfl
    rw[e];exact hg.po
   obtain⟨i1,hi1,rfl⟩:=List.mem_iff_getElem.1 m1
   obtain⟨i2,hi2,rfl⟩:=List.mem_iff_getElem.1 m2
   have:i1=i2:=(List.getElem_inj (h₀:=by simpa using hi1) (h₁:=by simpa using hi2) hn).1 (by simpa using e)
   subst this;rfl
  have hreg:(idsR n.bridges)[c'.br.toNat]? = (idsR n.bridges)[c.br.toNat]? := by
   rcases hxs with⟨e1,e2⟩|⟨e1,e2⟩
   ·have:=hone ((c.br,o.1),c'.br) ((x.a,x.pa),x.b) hsl (List.mem_flatMap.2 ⟨x,hx,by simp⟩) (by simp only[Prod.mk.injEq];omega)
    injection this with t1 t2
    rw[t2,←e1];exact hxr.symm
   ·have:=hone ((c.br,o.1),c'.br) ((x.b,x.pb),x.a) hsl (List.mem_flatMap.2 ⟨x,hx,by simp⟩) (by simp only[Prod.mk.injEq];omega)
    injection this with t1 t2
    rw[t2,←e1];exact hxr
  refine⟨?_,hreg.trans hce⟩
  rcases h4 with⟨_,_,e⟩|⟨_,_,e⟩<;>injection e with e1 e2<;>omega
 ·obtain⟨o,ho,h1,rfl⟩:=mem_seen hs
  exact⟨hcb,hce⟩
end Go.Proofs.YtcdhlofhhcgohaaGreat
namespace Go.Proofs.YtcdhlofhhcgohaaGreat
open Go.RowKit
theorem send_cases (n:Net) (t:List (List Mind)) (bs:List (List Ent)) (frm vid:Int) (f:Frame) :
  (((sendR n t bs frm vid f).flt.1≠0∨(sendR n t bs frm vid f).ok=false)∧(sendR n t bs frm vid f).seen=[]∧(sendR n t bs frm vid f).books=[]) ∨
  (bs.length=n.bridges.length∧(0≤frm∧frm<n.bridges.length)∧(1≤vid∧vid≤4094)∧f.tagged=false∧f.wrong=0∧(goS n t vid 41 [⟨frm,0,f⟩] [] bs).ok=true∧(goS n t vid 41 [⟨frm,0,f⟩] [] bs).flt=(0,0)∧sendR n t bs frm vid f=goS n t vid 41 [⟨frm,0,f⟩] [] bs):=by
 unfold sendR
 by_cases c1:bs.length≠n.bridges.length
 ·rw[if_pos c1];exact .inl ⟨.inr rfl,rfl,rfl⟩
 rw[if_neg c1]
 by_cases c2:frm<0∨(n.bridges.length:Int)≤frm
 ·rw[if_pos c2];exact .inl ⟨.inr rfl,rfl,rfl⟩
 rw[if_neg c2]
 by_cases c3:vid<1∨4094<vid
 ·rw[if_pos c3];exact .inl ⟨.inr rfl,rfl,rfl⟩
 rw[if_neg c3]
 by_cases c4:f.tagged=true
 ·rw[if_pos c4];exact .inl ⟨.inr rfl,rfl,rfl⟩
 rw[if_neg c4]
 by_cases c5:f.wrong≠0
 ·rw[if_pos c5];exact .inl ⟨.inr rfl,rfl,rfl⟩
 rw[if_neg c5]
 by_cases c6:n.bridges.any (fun b=>decide ((t.length:Int)≤treeOf b.region.ways vid))=true
 ·rw[if_pos c6];exact .inl ⟨.inr rfl,rfl,rfl⟩
 rw[if_neg c6]
 cases hok:(goS n t vid 41 [⟨frm,0,f⟩] [] bs).ok with
 | false =>
  obtain⟨h1,h2⟩:=sent_bad 41 _ _ _ hok
  exact .inl ⟨.inr rfl,h1,h2⟩
 | true=>exact .inr ⟨Decidable.not_not.1 c1,by omega,by omega,by simpa using c4,Decidable.not_not.1 c5,rfl,sent_flt 41 _ _ _ hok,rfl⟩
theorem net2_open {t1:List (List Mind)} (ht:goodT net2 t1) (hk:0<t1.length) {T:Nat} (hT:90≤T):opensT (ticksN net2 t1 T) (0:Nat) 0 1=true∧opensT (ticksN net2 t1 T) (0:Nat) 1 2=true:=by
 have hone:∀ b∈net2.bridges,b.region=regR:=fun b hb=>by simp[net2]at hb;rcases hb with rfl|rfl<;>rfl
 have h:=link_at net2_good hone (tree:=0) (r:=0) (c := [0,5]) (dist_of net2_good hone (by decide +kernel)) ht hk hT (x:=⟨0,1,1,2,5,true⟩) (by simp[net2])
 rw[show opX (planS net2 ((0:Nat):Int) 0 [0,5]) (0:Int).toNat 1=true by decide +kernel,show opX (planS net2 ((0:Nat):Int) 0 [0,5]) (1:Int).toNat 2=true by decide +kernel]at h
 exact h
def frm9 : Frame:=⟨9,8,false,0,false,0,2048,[]⟩
theorem net2_gates {t:List (List Mind)} (hl:t.length=1) (h1:opensT t (0:Nat) 0 1=true) (h2:opensT t (0:Nat) 1 2=true):gatesOf net2 t 0 5=[⟨0,[5],5,[true]⟩,⟨1,[5],0,[true]⟩]∧gatesOf net2 t 1 5=[⟨0,[5],5,[true]⟩,⟨2,[5],0,[true]⟩]:=by
 have p0:portsOf net2.links 0=[1]:=by rw[ports_iso];rfl
 have p1:portsOf net2.links 1=[2]:=by rw[ports_iso];rfl
 have o0:∀ b,opensOf t b 0=[true]:=fun b=>by unfold opensOf;rw[hl];rfl
 have o1:opensOf t 0 1=[true]:=by
  unfold opensOf
  rw[hl]
  show [decide ((1:Int)=0) || opensT t (0:Nat) 0 1]=_
  rw[h1];rfl
 have o2:opensOf t 1 2=[true]:=by
  unfold opensOf
  rw[hl]
  show [decide ((2:Int)=0) || opensT t (0:Nat) 1 2]=_
  rw[h2];rfl
 constructor
 ·unfold gatesOf
  rw[p0]
  unfold gateOf
  simp only[List.map_cons,List.map_nil,o0,o1]
  rfl
 ·unfold gatesOf
  rw[p1]
  unfold gateOf
  simp only[List.map_cons,List.map_nil,o0,o2]
  rfl
theorem net2_send {t:List (List Mind)} (hl:t.length=1) (h1:opensT t (0:Nat) 0 1=true) (h2:opensT t (0:Nat) 1 2=true):sendR net2 t [[],[]] 0 5 frm9=⟨[(1,frm9)],[[⟨5,8,0,0⟩],[⟨5,8,2,0⟩]],true,(0,0)⟩:=by
 obtain⟨g0,g1⟩:=net2_gates hl h1 h2
 have r0:relayC net2 t 5 [[],[]] ⟨0,0,frm9⟩=([(1,tagF frm9 5)],[⟨5,8,0,0⟩],0):=by
  unfold relayC
  rw[show(⟨0,0,frm9⟩:Come).br=0 from rfl,g0]
  rfl
 have r1:relayC net2 t 5 [[⟨5,8,0,0⟩],[]] ⟨1,2,tagF frm9 5⟩=([(0,frm9)],[⟨5,8,2,0⟩],0):=by
  unfold relayC
  rw[show(⟨1,2,tagF frm9 5⟩:Come).br=1 from rfl,g1]
  rfl
 unfold sendR
 rw[if_neg (by decide),if_neg (by decide),if_neg (by decide),if_neg (by decide),if_neg (by decide +kernel),if_neg (by rw[hl];decide)]
 rw[goS,r0,if_neg (by decide)]
 change goS net2 t 5 40 [⟨1,2,tagF frm9 5⟩] [] [[⟨5,8,0,0⟩],[]]=_
 rw[goS,r1,if_neg (by decide)]
 rfl
attribute [local irreducible] SStep DW DWin DOps thenQ inBlk loopQ retQ retQG FnF FnG FnI FnM Wk IntKind.wrap IntKind.andI IntKind.orI IntKind.xorI IntKind.andNotI IntKind.shlI IntKind.shrI playA onA ticksN sendR
theorem law10_two : FnF Tryz.prog 72 [] net2.v:=by
 refine fnF_of Tryz.func72 rfl rfl rfl ?_
 simp only[envOf]
 repeat' (first|refine qU ?_|((first|apply dX rfl|apply Da rfl rfl|apply Db rfl rfl qN);(focus ((try intro hg);first|exact qM));constructor)|refine qP ?_)
 refine retN (.cellA inferInstance rfl rfl rfl rfl (.inl rfl) .nil) ?_
 rfl
theorem law10_ticks (k:Int):FnF Tryz.prog 73 [.int .i64 k] (.agg (tickD k).cells):=by
 refine fnF_of Tryz.func73 rfl rfl rfl ?_
 simp only[envOf]
 repeat' (first|refine qU ?_|((first|apply dX rfl|apply Da rfl rfl|apply Db rfl rfl qN);(focus ((try intro hg);first|exact qM));constructor)|refine qP ?_)
 refine retN (.cellA inferInstance rfl rfl rfl rfl qF .nil) ?_
 rfl
set_option maxHeartbeats 4000000 in
theorem law10_alive : FnF Tryz.prog 26 [] (.bool true):=by
 refine fnF_of Tryz.func26 rfl rfl rfl ?_
 simp only[envOf]
 have hp:=talk_Play net2 net2_typed 1 [tickD 100]
 rw[play_loop net2_wrong (by decide),show tickD 100=⟨1,100,0,0⟩from rfl,on_tick (by decide),on_nil]at hp
 have htg:goodT net2 (ticksN net2 (start0 net2 1) (100:Int).toNat):=ticksN_good (start0_good (by decide)) _
 have htl:(ticksN net2 (start0 net2 1) (100:Int).toNat).length=1:=by rw[ticks_len];simp[start0]
 obtain⟨o1,o2⟩:=net2_open (start0_good (trees:=1) (by decide)) (by simp[start0]) (T:=(100:Int).toNat) (by decide)
 generalize ticksN net2 (start0 net2 1) (100:Int).toNat=t at hp htg htl o1 o2
 change FnF _ _ [net2.v,.int .i64 1,.slice ([tickD 100].map Doing.cells)] (.tuple [net2.v,talkV t,faultV (0,0)])at hp
 have hs:=lan_SendR net2 net2_typed (by rw[net2_wrong]) t htg (by omega) [[],[]] (by decide) (fun l hl=>by simp at hl;subst hl;decide) 0 5 frm9 ⟨by decide,by decide,by decide,by decide,by decide,by decide,by decide,by decide,by decide,by decide,by decide⟩
 rw[net2_send htl o1 o2]at hs
 change FnF _ _ _ (.tuple [.slice ([(1,frm9)].map outV),.slice ([[⟨5,8,0,0⟩],[⟨5,8,2,0⟩]].map bookR),.bool true,faultV (0,0)])at hs
 repeat' (first|refine qU ?_|refine qW ?_|((first|apply dX rfl|apply Da rfl rfl|apply Db rfl rfl qN);(focus ((try intro hg);first|exact S_call law10_two rfl|exact S_call (law10_ticks 100) rfl|exact S_call hp rfl|exact S_mkD (f:=bookR) (l:=2) (c:=2) ([]:List Ent) rfl rfl rfl rfl (Nat.le_refl _) (by decide) rfl|exact S_call hs rfl|exact S_ixM (f:=outV) (us := [(1,frm9)]) rfl rfl (by decide) rfl|exact qMo));constructor)|refine qP ?_)
 refine ret1 rfl qF ?_
 rfl
end Go.Proofs.YtcdhlofhhcgohaaGreat
