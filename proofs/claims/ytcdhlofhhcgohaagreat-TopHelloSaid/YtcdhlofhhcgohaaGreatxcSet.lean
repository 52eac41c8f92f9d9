/- Bridges come to agree: mathematics. -/
import Derived.Test.YtcdhlofhhcgohaaGreatxcPlW
import Derived.Test.YtcdhlofhhcgohaaGreatxdTlm
import Derived.Test.YtcdhlofhhcgohaaGreatxdTlq
namespace Go.Proofs.YtcdhlofhhcgohaaGreat
open Go.RowKit
attribute [local irreducible] SStep DW DWin DOps thenQ inBlk loopQ retQ retQG FnF FnG FnI FnM Wk IntKind.wrap IntKind.andI IntKind.orI IntKind.xorI IntKind.andNotI IntKind.shlI IntKind.shrI nm ix famM brCS priosOf
set_option maxHeartbeats 4000000 in
theorem talk_own (n:Net) (h:n.good) (hne:n.bridges≠[]) :
  FnM Tryz.prog 52 ([n.v].map (D.dat false)) [] (.aggd [.sl 950 n.bridges.length,.own 941 0 0 n.links.length]) (netM 0 n):=by
 refine fnM_new (K:=netK n.bridges.length) (t:=2) Tryz.func52 rfl rfl rfl rfl (netM_closed 0 n) rfl rfl ?_
 simp only[envOf]
 have hnb:=h.nb
 have hnl:=h.nl
 have hmb:(n.bridges.map bridgeV).length=n.bridges.length:=by simp
 have hcb:=clone_bridgesO n.bridges (by omega)
 have hcl:=clone_linksO n.links (by omega)
 repeat' (first|refine DW_mark 1 (bx := .cells false true [.own 940 1 0 n.bridges.length,.own 941 1 0 n.links.length]) rfl ?_|refine qU ?_|(apply dt rfl;case h=>first|exact S_callG0 940 hcb rfl rfl (.own _ _)|exact S_callG0 941 hcl rfl rfl (.own _ _))|((first|apply dX rfl|apply Da rfl rfl|apply Db rfl rfl qN);(focus ((try intro hg);first|exact S_callG0 940 hcb rfl rfl (.own _ _)|exact S_callG0 941 hcl rfl rfl (.own _ _)|exact qM));constructor)|refine qP ?_)
 intro _
 refine DW_cellsOfN 940 rfl (by decide) (by simpa using hne) ?_
 refine DW_weak (s':=⟨[(1,.ptr 1 0),(2,.ptr 2 0)],[(1,.cells false true [.sl 940 n.bridges.length,.own 941 0 0 n.links.length]),(2,.cells false true [.nil,.nil]),(941,.row 0 false true 6 (n.links.map linkV)),(940,.cells false true (brCS 0 n.bridges))],41⟩)
  (Wk_g some rfl rfl ⟨⟨⟨_,_,rfl,rfl,by(repeat' (first|exact ownLe2 rfl rfl rfl|exact trivial|rfl|exact listLe_map _|exact⟨_,rfl,.inl rfl⟩|exact⟨_,rfl,.inr (.inl rfl)⟩|exact⟨_,rfl,.inr (.inr rfl)⟩|refine⟨_,_,rfl,rfl,?_⟩|exact⟨_,rfl,rfl⟩|exact⟨_,_,_,_,rfl,rfl,rfl⟩|exact⟨_,rfl⟩|exact⟨_,_,rfl⟩|apply And.intro))⟩,⟨_,_,rfl,rfl,by(repeat' (first|exact trivial|rfl|exact listLe_map _|exact⟨_,rfl,.inl rfl⟩|exact⟨_,rfl,.inr (.inl rfl)⟩|exact⟨_,rfl,.inr (.inr rfl)⟩|refine⟨_,_,rfl,rfl,?_⟩|exact⟨_,rfl,rfl⟩|exact⟨_,_,_,_,rfl,rfl,rfl⟩|exact⟨_,rfl⟩|exact⟨_,_,rfl⟩|apply And.intro))⟩,⟨_,rfl⟩,⟨_,_,rfl,rfl,brCS_start _⟩,trivial⟩,by(repeat' (first|exact trivial|rfl|exact listLe_map _|exact⟨_,rfl,.inl rfl⟩|exact⟨_,rfl,.inr (.inl rfl)⟩|exact⟨_,rfl,.inr (.inr rfl)⟩|refine⟨_,_,rfl,rfl,?_⟩|exact⟨_,rfl,rfl⟩|exact⟨_,_,_,_,rfl,rfl,rfl⟩|exact⟨_,rfl⟩|exact⟨_,_,rfl⟩|apply And.intro))⟩) ?_
 refine DW_weak (Wk_famCNew intV1 1 (env' := [(1,.ptr 1 0),(2,.ptr 2 0)]) (pre' := [(1,.cells false true [.sl 950 n.bridges.length,.own 941 0 0 n.links.length]),(2,.cells false true [.nil,.nil]),(941,.row 0 false true 6 (n.links.map linkV))]) 940 (by decide) (fun j d h=>.inl (brCS_dat j d h)) rfl rfl rfl kq kq) ?_
 repeat' (first|refine qU ?_|((first|apply dX rfl|apply Da rfl rfl|apply Db rfl rfl qN);(focus ((try intro hg);first|exact S_len_sl rfl|exact qM));constructor)|refine qP ?_)
 refine DW_loop (fun k:Nat=>⟨[(1,.ptr 1 0),(2,.ptr 2 0),(14,.sl 950 n.bridges.length),(15,.dat true (.int .i64 n.bridges.length)),(16,.dat true (.int .i64 k))],famC intV1 1 [(1,.cells false true [.sl 950 n.bridges.length,.own 941 0 0 n.links.length]),(2,.cells false true [.nil,.nil]),(941,.row 0 false true 6 (n.links.map linkV))] (brCS k n.bridges) (priosOf k n.bridges),41⟩)
  (fun k=>k≤n.bridges.length) (fun k=>n.bridges.length-k) 0 (Nat.zero_le _)
  (by
   rw[show priosOf 0 n.bridges=[] by with_unfolding_all rfl]
   refine Wk_famCId intV1 1 (fun j d h=>.inl (brCS_dat j d h)) rfl rfl rfl (fun k r h=>by cases h) kq kq) (fun k hk=>?_)
 by_cases hlt:k<n.bridges.length
 ·have hb:n.bridges[k]? = some n.bridges[k]:=by simp[hlt]
  have hbo:=h.br n.bridges[k] (List.getElem_mem hlt)
  have hcs:=brCS_step hb (.own 960 1 0 n.bridges[k].prios.length)
  have htk:=brCS_take (k:=k) hb
  have hps:=priosOf_step hb
  have hpl:=priosOf_len hk
  have hbl:=brCS_len k n.bridges
  have hok:=brCS_okC (k:=k+1) (bs:=n.bridges) (by omega)
  have how:=brCS_own (k:=k+1) (Nat.lt_succ_self k) hb
  have huq:=brCS_uq (k:=k+1) (i:=k) (bs:=n.bridges)
  have hrow:∀ (j:Nat) r,(priosOf k n.bridges)[j]? = some r→Mem.at (famC intV1 1 [(1,.cells false true [.sl 950 n.bridges.length,.own 941 0 0 n.links.length]),(2,.cells false true [.nil,.nil]),(941,.row 0 false true 6 (n.links.map linkV))] (brCS k n.bridges) (priosOf k n.bridges)) (nm j) = .row 0 false true 1 (r.map intV1):=fun j r h=>famC_row intV1 1 rfl h
  have h60:Mem.at (famC intV1 1 [(1,.cells false true [.sl 950 n.bridges.length,.own 941 0 0 n.links.length]),(2,.cells false true [.nil,.nil]),(941,.row 0 false true 6 (n.links.map linkV))] (brCS k n.bridges) (priosOf k n.bridges)) 960 = .gone:=famC_mid intV1 1 rfl (by decide) (by decide)
  have h4:Mem.at (famC intV1 1 [(1,.cells false true [.sl 950 n.bridges.length,.own 941 0 0 n.links.length]),(2,.cells false true [.nil,.nil]),(941,.row 0 false true 6 (n.links.map linkV))] (brCS k n.bridges) (priosOf k n.bridges)) 4 = .gone:=famC_lo intV1 1 (by decide) rfl
  generalize n.bridges[k]=b at hb hbo hcs htk hps how
  have hc1:=clone_intsO b.prios (by have:=hbo.n;omega)
  have hc2:=clone_waysF b.region.ways (by have:=hbo.r.l;omega)
  have htk':((brCS k n.bridges).drop (k*5)).take 5=[.dat true (.int .u64 b.addr),.dat false (.slice (b.prios.map intV1)),.dat true (.str b.region.name),.dat true (.int .i64 b.region.rev),.dat false (.slice (b.region.ways.map wayV))]:=by
   rw[htk];unfold cellB;rw[if_neg (Nat.lt_irrefl k),decide_eq_false (Nat.lt_irrefl k)]
  clear htk
  have b1:Nat.ble (((k:Nat):Int).toNat*5+1+1) (brCS k n.bridges).length=true:=Nat.ble_eq_true_of_le (by rw[hbl,Int.toNat_natCast];omega)
  have s1:splice (brCS k n.bridges) (((k:Nat):Int).toNat*5+1) [D.own 960 1 0 b.prios.length]=(brCS k n.bridges).set (k*5+1) (.own 960 1 0 b.prios.length):=by
   rw[Int.toNat_natCast];exact splice_set (by rw[hbl];omega)
  have b2:Nat.ble (((k:Nat):Int).toNat*5+2+2+1) (splice (brCS k n.bridges) (((k:Nat):Int).toNat*5+1) [D.own 960 1 0 b.prios.length]).length=true:=Nat.ble_eq_true_of_le (by rw[s1,List.length_set,hbl,Int.toNat_natCast];omega)
  have s2:splice (splice (brCS k n.bridges) (((k:Nat):Int).toNat*5+1) [D.own 960 1 0 b.prios.length]) (((k:Nat):Int).toNat*5+2+2) [D.dat true (.slice (b.region.ways.map wayV))]=(brCS (k+1) n.bridges).set (k*5+1) (.own 960 1 0 b.prios.length):=by
   rw[s1,←hcs,Int.toNat_natCast];exact splice_set (by rw[List.length_set,hbl];omega)
  repeat' (first|refine qU ?_|refine qW ?_|(apply dt rfl;case h=>first|exact S_callG0 960 hc1 rfl h60 (.own _ _))|((first|apply dX rfl|apply Da rfl rfl|apply Db rfl rfl qN);(focus ((try intro hg);first|exact S_alloc 4 h4|exact S_ix_sl rfl rfl (by omega) (by omega)|exact S_loadC rfl rfl htk' (by rw[hbl];simp only[Int.toNat_natCast];omega)|exact S_callG0 960 hc1 rfl h60 (.own _ _)|exact S_call hc2 rfl|exact S_store rfl rfl rfl rfl rfl b1|exact S_store rfl rfl rfl rfl rfl b2|exact qMo));constructor)|refine qP ?_)
  refine loop_again (k+1) hlt (by omega) ?_
  rw[hps]at hok ⊢
  rw[s2]
  refine Wk_famCAdd intV1 1 (k*5+1) hok (by rw[hpl];exact how) (fun j len h=>huq j len (by rw[hpl]at h;exact h)) rfl rfl rfl rfl rfl (fun j r h=>?_) kq kq
  simp (discharger:=decide) only[mem_hi]
  exact hrow j r h
 ·have he:k=n.bridges.length:=by omega
  subst he
  repeat' (first|refine qU ?_|refine qW ?_|((first|apply dX rfl|apply Da rfl rfl|apply Db rfl rfl qN);(focus ((try intro hg);first|exact qMo));constructor)|refine qP ?_)
  refine⟨2,_,_,rfl,rfl,List.map_congr_left fun g hg=>?_⟩
  rcases netK_cases hg with rfl|rfl|⟨j,hj,rfl⟩
  ·rfl
  ·rfl
  ·have hj':(priosOf n.bridges.length n.bridges)[j]? = some (n.bridges[j].prios):=by rw[priosOf_get hj];simp[hj]
   simp (discharger:=decide) only[mem_hi]
   rw[famC_row intV1 1 rfl hj']
   exact(famC_row intV1 1 rfl hj').symm
end Go.Proofs.YtcdhlofhhcgohaaGreat
namespace Go.Proofs.YtcdhlofhhcgohaaGreat
open Go.RowKit
theorem choose_ages (id:Int):∀ (l:List Offer) (c:Ch),((c.port = -1∧c.age=0∧c.best.root=id)∨(0≤c.port∧1≤c.age∧c.age≤20∧c.best.root<id)) →
  (((l.foldl (Ch.step id) c).port = -1∧(l.foldl (Ch.step id) c).age=0∧(l.foldl (Ch.step id) c).best.root=id)∨(0≤(l.foldl (Ch.step id) c).port∧1≤(l.foldl (Ch.step id) c).age∧(l.foldl (Ch.step id) c).age≤20∧(l.foldl (Ch.step id) c).best.root<id))
 | [],_,h=>h
 | o :: r,c,h=>by
  rw[List.foldl_cons]
  refine choose_ages id r _ ?_
  unfold Ch.step
  split
  ·exact h
  ·rename_i v hv
   split
   ·exact h
   ·rename_i hn
    by_cases hq:(if c.port<0 then -1 else v.cmp c.best)<0∨((if c.port<0 then -1 else v.cmp c.best)=0∧o.port<c.port)
    ·rw[if_pos hq]
     refine .inr ⟨?_,?_,?_,?_⟩
     ·show 0≤o.port;omega
     ·show 1≤o.age+1;omega
     ·show o.age+1≤20;omega
     ·show v.root<id;omega
    ·rw[if_neg hq];exact h
structure Mind.aged (m:Mind):Prop where
 lo:0≤m.age
 hi:m.age≤20
 a:m.age=0↔m.rootPort<0
 r:m.vec.root=m.vec.bridge↔m.rootPort<0
theorem mindOf_aged (n:Net) (tree:Int) (i:Nat) (ends:List End) (l:List Mind):(mindOf n tree i ends l).aged:=by
 have h:=choose_ages (idN n tree i) (hears ends l) (.start (idN n tree i)) (.inl ⟨rfl,rfl,rfl⟩)
 have e:(hears ends l).foldl (Ch.step (idN n tree i)) (.start (idN n tree i))=chooseS (idN n tree i) (hears ends l):=rfl
 rw[e]at h
 unfold mindOf
 dsimp only[Ch.says]
 generalize chooseS (idN n tree i) (hears ends l)=c at h
 rcases h with⟨h1,h2,h3⟩|⟨h1,h2,h3,h4⟩
 ·constructor<;>simp only<;>omega
 ·constructor<;>simp only<;>omega
def agedT (t:List (List Mind)):Prop:=∀ l∈t,∀ m∈l,Mind.aged m
theorem tickN_aged (n:Net) (t:List (List Mind)):agedT (tickN n t):=fun l hl m hm=>by
 unfold tickN at hl
 obtain⟨k,_,rfl⟩:=List.mem_map.1 hl
 unfold tickT at hm
 obtain⟨i,_,rfl⟩:=List.mem_map.1 hm
 exact mindOf_aged _ _ _ _ _
theorem ticksN_aged (n:Net) {t:List (List Mind)} (h:agedT t):∀ k,agedT (ticksN n t k)
 | 0=>h
 | _k+1=>tickN_aged n _
theorem onLoop_aged : ∀ (l:List Doing) (i:Nat) (n:Net) (t:List (List Mind)),agedT t→∀ r,(onLoop i l n t).1=some r→agedT r.2
 | [],i,n,t,h,r,hr=>by
  rw[onLoop]at hr
  injection hr with hr
  subst hr;exact h
 | d::l,i,n,t,h,r,hr=>by
  rw[onLoop]at hr
  split at hr
  ·split at hr
   ·cases hr
   ·exact onLoop_aged l _ _ _ (ticksN_aged n h _) r hr
  ·split at hr
   split at hr
   ·cases hr
   ·exact onLoop_aged l _ _ _ h r hr
theorem ticks_len (n:Net) (t:List (List Mind)):∀ k,(ticksN n t k).length=t.length
 | 0=>rfl
 | k+1=>by
  rw[ticksN]
  unfold tickN
  rw[List.length_map,List.length_range,ticks_len n t k]
end Go.Proofs.YtcdhlofhhcgohaaGreat
namespace Go.Proofs.YtcdhlofhhcgohaaGreat
def tkN (n:Net) (tree:Int) (l:List Mind):Nat→List Mind
 | 0=>l
 | k+1=>tickT n tree (tkN n tree l k)
theorem tkN_len (n:Net) (tree:Int) (l:List Mind):∀ k,(tkN n tree l k).length=l.length
 | 0=>rfl
 | k+1=>by
  rw[tkN];unfold tickT
  rw[List.length_map,List.length_range,tkN_len n tree l k]
theorem ticksN_get (n:Net) (t:List (List Mind)) (j:Nat):∀ k,(ticksN n t k)[j]? = (t[j]?).map fun l=>tkN n j l k
 | 0=>by
  show t[j]? = _
  cases t[j]? <;> rfl
 | k+1=>by
  rw[ticksN]
  unfold tickN
  have ih:=ticksN_get n t j k
  rw[List.getElem?_map,ticks_len]
  by_cases hj:j<t.length
  ·rw[List.getElem?_eq_getElem hj]at ih ⊢
   rw[List.getElem?_range hj]
   show some (tickT n j ((ticksN n t k)[j]?.getD []))=_
   rw[ih];rfl
  ·rw[List.getElem?_eq_none (by simp;omega),List.getElem?_eq_none (by omega)];rfl
def mAt (l:List Mind) (i:Nat):Mind:=(l[i]?).getD .zero
theorem mAt_get {l:List Mind} {i:Nat} (h:i<l.length):l[i]? = some (mAt l i):=by unfold mAt;rw[List.getElem?_eq_getElem h];rfl
theorem tkN_at {n:Net} {tree:Int} {l:List Mind} {k i:Nat} (hi:i<l.length):mAt (tkN n tree l (k+1)) i=mindOf n tree i (endsOf n i) (tkN n tree l k):=by
 unfold mAt
 rw[tkN];unfold tickT
 rw[List.getElem?_map,List.getElem?_range (by rw[tkN_len];exact hi)];rfl
def wH (l:List Mind) (e:End):Vec:=⟨(mAt l e.other.toNat).vec.root,(mAt l e.other.toNat).vec.cost+e.cost,(mAt l e.other.toNat).vec.bridge,e.oport⟩
structure CanH (id:Int) (l:List Mind) (e:End):Prop where
 c0:0≤(mAt l e.other.toNat).vec.cost
 c1:(mAt l e.other.toNat).vec.cost+e.cost≤1000000000
 a0:0≤(mAt l e.other.toNat).age
 a1:(mAt l e.other.toNat).age<20
 r:(mAt l e.other.toNat).vec.root<id
theorem hearOf_eq (l:List Mind) (e:End):hearOf l e=⟨e.port,e.cost,(mAt l e.other.toNat).age,{ (mAt l e.other.toNat).vec with port:=e.oport }⟩:=rfl
theorem elig_hear {n:Net} (h:n.good) {l:List Mind} {i:Nat} {e:End} {id:Int} {w:Vec} (he:adjN n i e):(hearOf l e).elig id w↔w=wH l e∧CanH id l e:=by
 obtain⟨hp,hc,_⟩:=adj_ok h he
 rw[hearOf_eq]
 unfold Offer.elig Vec.over
 dsimp only
 by_cases hq:e.cost<0∨maxCost<e.cost∨(mAt l e.other.toNat).vec.cost<0∨maxCost-e.cost<(mAt l e.other.toNat).vec.cost
 ·rw[if_pos hq]
  constructor
  ·rintro⟨h1,_⟩;cases h1
  ·rintro⟨_,h1,h2,_⟩
   unfold maxCost at hq
   omega
 ·rw[if_neg hq]
  unfold maxCost at hq
  constructor
  ·rintro⟨h1,h2,h3,h4,h5⟩
   injection h1 with h1
   subst h1
   exact⟨rfl,by omega,by omega,h3,h4,h5⟩
  ·rintro⟨rfl,h1,h2,h3,h4,h5⟩
   exact⟨rfl,by omega,h3,h4,h5⟩
theorem mind_cases {n:Net} (h:n.good) (tree:Int) (i:Nat) (l:List Mind) :
  ((mindOf n tree i (endsOf n i) l).rootPort = -1∧(mindOf n tree i (endsOf n i) l).age=0∧(mindOf n tree i (endsOf n i) l).vec.root=idN n tree i∧(mindOf n tree i (endsOf n i) l).vec.cost=0∧∀ e,adjN n i e→¬CanH (idN n tree i) l e) ∨
  ∃ e,adjN n i e∧CanH (idN n tree i) l e∧(mindOf n tree i (endsOf n i) l).rootPort=e.port∧(mindOf n tree i (endsOf n i) l).age=(mAt l e.other.toNat).age+1∧(mindOf n tree i (endsOf n i) l).vec.root=(mAt l e.other.toNat).vec.root ∧
   (mindOf n tree i (endsOf n i) l).vec.cost=(mAt l e.other.toNat).vec.cost+e.cost∧∀ e',adjN n i e'→CanH (idN n tree i) l e'→(wH l e).le2 e.port (wH l e') e'.port:=by
 have inv:=choose_inv (idN n tree i) (hears (endsOf n i) l)
 have e1:(mindOf n tree i (endsOf n i) l).rootPort=(chooseS (idN n tree i) (hears (endsOf n i) l)).port:=rfl
 have e2:(mindOf n tree i (endsOf n i) l).age=(chooseS (idN n tree i) (hears (endsOf n i) l)).age:=rfl
 have e3:(mindOf n tree i (endsOf n i) l).vec.root=(chooseS (idN n tree i) (hears (endsOf n i) l)).best.root:=rfl
 have e4:(mindOf n tree i (endsOf n i) l).vec.cost=(chooseS (idN n tree i) (hears (endsOf n i) l)).best.cost:=rfl
 rw[e1,e2,e3,e4]
 clear e1 e2 e3 e4
 generalize chooseS (idN n tree i) (hears (endsOf n i) l)=c at inv
 have hin:∀ e,adjN n i e→hearOf l e∈hears (endsOf n i) l:=fun e he=>List.mem_map_of_mem (mem_endsOf.2 he)
 by_cases hp:c.port<0
 ·refine .inl ?_
  have hc:=inv.neg hp
  refine⟨by rw[hc];rfl,by rw[hc];rfl,by rw[hc];rfl,by rw[hc];rfl,fun e he hq=>?_⟩
  have:=(inv.min _ (hin e he) _ ((elig_hear h he).2 ⟨rfl,hq⟩)).1
  omega
 ·refine .inr ?_
  obtain⟨o,ho,hel,hpo,hag⟩:=inv.some (by omega)
  obtain⟨e,he,rfl⟩:=List.mem_map.1 ho
  have he:=mem_endsOf.1 he
  obtain⟨hb,hq⟩:=(elig_hear h he).1 hel
  refine⟨e,he,hq,hpo.symm,hag,by rw[hb];rfl,by rw[hb];rfl,fun e' he' hq'=>?_⟩
  have:=(inv.min _ (hin e' he') _ ((elig_hear h he').2 ⟨rfl,hq'⟩)).2
  rw[hb,←hpo]at this
  exact this
inductive RW (n:Net) (tree:Int):Nat→Nat→Int→Int→Prop
 | own (i:Nat):RW n tree 0 i (idN n tree i) 0
 | step {a i:Nat} {e:End} {r c:Int} (he:adjN n i e) (h:RW n tree a e.other.toNat r c):RW n tree (a+1) i r (c+e.cost)
section
variable {n : Net} (h : n.good) (tree : Int)
include h
theorem RW.low {a i:Nat} {r c:Int} (hw:RW n tree a i r c):i<n.bridges.length→leL (sF n tree i).root (sF n tree i).cost r c∧0≤c∧c≤200000*a:=by
 induction hw with
 | own i=>exact fun hi=>⟨fin_own h tree hi,by omega,by omega⟩
 | step he _ ih =>
  intro hi
  have ho:=adj_ok h he
  obtain⟨h1,h2,h3⟩:=ih ho.2.2.1
  exact⟨leL_trans (fin_le h tree hi he) (leL_add _ h1),by omega,by omega⟩
theorem live_tale {l:List Mind} (hl:l.length=n.bridges.length):∀ (a T i:Nat),i<n.bridges.length→a+1≤T→(mAt (tkN n tree l T) i).age=a →
  RW n tree a i (mAt (tkN n tree l T) i).vec.root (mAt (tkN n tree l T) i).vec.cost:=by
 intro a
 induction a with
 | zero =>
  intro T i hi hT ha
  obtain⟨k,rfl⟩:∃ k,T=k+1:=⟨T-1,by omega⟩
  rw[tkN_at (by omega)]at ha ⊢
  rcases mind_cases h tree i (tkN n tree l k)with⟨_,_,h3,h4,_⟩|⟨e,_,hq,_,h4,_⟩
  ·rw[h3,h4];exact .own i
  ·have:=hq.a0;omega
 | succ a ih =>
  intro T i hi hT ha
  obtain⟨k,rfl⟩:∃ k,T=k+1:=⟨T-1,by omega⟩
  rw[tkN_at (by omega)]at ha ⊢
  rcases mind_cases h tree i (tkN n tree l k)with⟨_,h2,_⟩|⟨e,he,hq,_,h4,h5,h6,_⟩
  ·omega
  ·rw[h5,h6]
   exact .step he (ih k e.other.toNat (adj_ok h he).2.2.1 (by omega) (by omega))
theorem live_all {l:List Mind} (hl:l.length=n.bridges.length) {T i:Nat} (hi:i<n.bridges.length) (hT:21≤T) :
  RW n tree (mAt (tkN n tree l T) i).age.toNat i (mAt (tkN n tree l T) i).vec.root (mAt (tkN n tree l T) i).vec.cost∧0≤(mAt (tkN n tree l T) i).age∧(mAt (tkN n tree l T) i).age≤20∧(mAt (tkN n tree l T) i).vec.bridge=idN n tree i∧(mAt (tkN n tree l T) i).vec.port=0:=by
 obtain⟨k,rfl⟩:∃ k,T=k+1:=⟨T-1,by omega⟩
 have hag:(mAt (tkN n tree l (k+1)) i).aged:=by rw[tkN_at (by omega)];exact mindOf_aged ..
 have:=hag.lo
 have:=hag.hi
 exact⟨live_tale h tree hl _ _ i hi (by omega) (by omega),hag.lo,hag.hi,by rw[tkN_at (by omega)];rfl,by rw[tkN_at (by omega)];rfl⟩
end
inductive Dep (n:Net) (tree:Int):Nat→Nat→Prop
 | own {i:Nat} (hr:(sF n tree i).root=idN n tree i) (hc:(sF n tree i).cost=0) (hp:pF n tree i = -1):Dep n tree 0 i
 | step {d i:Nat} {e:End} (he:adjN n i e) (hr:(sF n tree i).root=(sF n tree e.other.toNat).root) (hc:(sF n tree i).cost=(sF n tree e.other.toNat).cost+e.cost) (hp:pF n tree i=e.port) (hlt:(sF n tree e.other.toNat).root<idN n tree i)
   (hm:∀ e',adjN n i e'→(sF n tree e'.other.toNat).root<idN n tree i →
    Vec.le2 ⟨(sF n tree e.other.toNat).root,(sF n tree e.other.toNat).cost+e.cost,idN n tree e.other.toNat,e.oport⟩ e.port ⟨(sF n tree e'.other.toNat).root,(sF n tree e'.other.toNat).cost+e'.cost,idN n tree e'.other.toNat,e'.oport⟩ e'.port)
   (h:Dep n tree d e.other.toNat):Dep n tree (d+1) i
section
variable {n : Net} (h : n.good) (tree : Int)
include h
theorem dep_ex : ∀ (c:Nat) {i:Nat},i<n.bridges.length→(sF n tree i).cost≤c→∃ d,Dep n tree d i
 | c,i,hi,hc=>by
  rcases fin_at h tree hi with⟨h1,h2,h3,_⟩|⟨e,he,h1,h2,h3,h4,h5⟩
  ·exact⟨0,.own h1 h2 h3⟩
  ·have ho:=adj_ok h he
   have:=fin_cost h tree ho.2.2.1
   match c,hc with
   | 0,hc=>omega
   | c+1,hc =>
    obtain⟨d,hd⟩:=dep_ex c ho.2.2.1 (by omega)
    exact⟨d+1,.step he h1 h2 h3 h4 h5 hd⟩
theorem dep_chain {d i:Nat} (hd:Dep n tree d i):i<n.bridges.length→∃ f:Nat→Nat,f 0=i∧(∀ s,s≤d→f s<n.bridges.length)∧∀ s,s<d→(sF n tree (f (s+1))).cost<(sF n tree (f s)).cost:=by
 induction hd with
 | @own i _ _ _=>exact fun hi=>⟨fun _=>i,rfl,fun _ _=>hi,fun s hs=>by omega⟩
 | @step d i e he hr hc hp hlt hm _ ih =>
  intro hi
  have ho:=adj_ok h he
  obtain⟨f,h0,h1,h2⟩:=ih ho.2.2.1
  refine⟨fun s=>if s=0 then i else f (s-1),rfl,fun s hs=>?_,fun s hs=>?_⟩
  ·by_cases h3:s=0
   ·simp only[h3,if_true];exact hi
   ·simp only[h3,if_false];exact h1 _ (by omega)
  ·by_cases h3:s=0
   ·subst h3
    simp only[Nat.zero_add,Nat.sub_self,h0,if_true,if_neg (show ¬(1=0) by omega)]
    omega
   ·simp only[h3,if_false,if_neg (show ¬(s+1=0) by omega),Nat.add_sub_cancel]
    have:=h2 (s-1) (by omega)
    rw[show s-1+1=s by omega]at this
    exact this
theorem dep_lt {d i:Nat} (hd:Dep n tree d i) (hi:i<n.bridges.length):d<n.bridges.length:=by
 refine Classical.byContradiction fun hn=>?_
 obtain⟨f,_,h1,h2⟩:=dep_chain h tree hd hi
 obtain⟨a,b,hab,hb,he⟩:=pigeon n.bridges.length f (fun s hs=>h1 s (by omega))
 have key:∀ b,a<b→b≤d→(sF n tree (f b)).cost<(sF n tree (f a)).cost:=fun b=>by
  induction b with
  | zero=>intro h;omega
  | succ b ih =>
   intro h3 h4
   have h5:=h2 b (by omega)
   by_cases h6:a=b
   ·subst h6;exact h5
   ·have:=ih (by omega) (by omega);omega
 have:=key b hab (by omega)
 rw[he]at this
 omega
theorem dep_all {i:Nat} (hi:i<n.bridges.length):∃ d,Dep n tree d i∧d≤11:=by
 have hc:=fin_cost h tree hi
 obtain⟨d,hd⟩:=dep_ex h tree (sF n tree i).cost.toNat hi (by omega)
 have:=dep_lt h tree hd hi
 have:=h.nb
 exact⟨d,hd,by omega⟩
theorem settle_at {l:List Mind} (hl:l.length=n.bridges.length) {d i:Nat} (hd:Dep n tree d i):∀ T,i<n.bridges.length→21+d≤T →
  (mAt (tkN n tree l T) i).vec.root=(sF n tree i).root∧(mAt (tkN n tree l T) i).vec.cost=(sF n tree i).cost∧(mAt (tkN n tree l T) i).rootPort=pF n tree i∧(mAt (tkN n tree l T) i).age=d:=by
 induction hd with
 | @own i hr hc hp =>
  intro T hi hT
  have hlow:=RW.low h tree (live_all h tree hl hi (by omega)).1 hi
  obtain⟨k,rfl⟩:∃ k,T=k+1:=⟨T-1,by omega⟩
  rw[tkN_at (by omega)]at hlow ⊢
  rcases mind_cases h tree i (tkN n tree l k)with⟨h1,h2,h3,h4,_⟩|⟨e,he,hq,_,_,h5,h6,_⟩
  ·rw[h1,h2,h3,h4,hr,hc,hp];exact⟨rfl,rfl,rfl,rfl⟩
  ·have:=hq.r
   unfold leL at hlow
   omega
 | @step d i e he hr hc hp hlt hm hdo ih =>
  intro T hi hT
  have ho:=adj_ok h he
  obtain⟨k,rfl⟩:∃ k,T=k+1:=⟨T-1,by omega⟩
  obtain⟨p1,p2,p3,p4⟩:=ih k ho.2.2.1 (by omega)
  have pl:=live_all h tree hl (T:=k) ho.2.2.1 (by omega)
  have hdl:=dep_lt h tree hdo ho.2.2.1
  have hnb:=h.nb
  have hfc:=fin_cost h tree ho.2.2.1
  have hcan:CanH (idN n tree i) (tkN n tree l k) e:=⟨by omega,by omega,by omega,by omega,by omega⟩
  rw[tkN_at (by omega)]
  rcases mind_cases h tree i (tkN n tree l k)with⟨_,_,_,_,hno⟩|⟨e',he',hq,h3,h4,h5,h6,hmin⟩
  ·exact absurd hcan (hno e he)
  ·have ho':=adj_ok h he'
   have hw:=hmin e he hcan
   obtain⟨l1,l2,l3,l4,l5⟩:=live_all h tree hl (T:=k) ho'.2.2.1 (by omega)
   have hlow:=(RW.low h tree l1 ho'.2.2.1).1
   have hfl:=fin_le h tree hi he'
   have hqr:=hq.r
   have hw':leL (mAt (tkN n tree l k) e'.other.toNat).vec.root ((mAt (tkN n tree l k) e'.other.toNat).vec.cost+e'.cost) (sF n tree i).root (sF n tree i).cost:=by
    unfold Vec.le2 at hw
    rw[Vec.cmp_lt,Vec.cmp_eq]at hw
    unfold wH at hw
    simp only at hw
    unfold leL
    omega
   have e1:(mAt (tkN n tree l k) e'.other.toNat).vec.root=(sF n tree e'.other.toNat).root∧(mAt (tkN n tree l k) e'.other.toNat).vec.cost=(sF n tree e'.other.toNat).cost∧(sF n tree i).root=(sF n tree e'.other.toNat).root∧(sF n tree i).cost=(sF n tree e'.other.toNat).cost+e'.cost:=by
    unfold leL at hw' hlow hfl
    omega
   obtain⟨q1,q2,q3,q4⟩:=e1
   have hm':=hm e' he' (by omega)
   have ew:wH (tkN n tree l k) e'=⟨(sF n tree e'.other.toNat).root,(sF n tree e'.other.toNat).cost+e'.cost,idN n tree e'.other.toNat,e'.oport⟩:=by unfold wH;rw[q1,q2,l4]
   have ew2:wH (tkN n tree l k) e=⟨(sF n tree e.other.toNat).root,(sF n tree e.other.toNat).cost+e.cost,idN n tree e.other.toNat,e.oport⟩:=by unfold wH;rw[p1,p2,pl.2.2.2.1]
   rw[ew,ew2]at hw
   have hpp:=(Vec.le2_antisymm hw hm').2.2.2.2
   have hee:e'=e:=h.end_one he' he hpp
   subst hee
   exact⟨by omega,by omega,by rw[h3,hp],by omega⟩
theorem settle_vec {l:List Mind} (hl:l.length=n.bridges.length) {i:Nat} (hi:i<n.bridges.length) {T:Nat} (hT:32≤T) :
  (mAt (tkN n tree l T) i).vec=sF n tree i∧(mAt (tkN n tree l T) i).rootPort=pF n tree i∧∃ d,Dep n tree d i∧(mAt (tkN n tree l T) i).age=d:=by
 obtain⟨d,hd,hd11⟩:=dep_all h tree hi
 obtain⟨h1,h2,h3,h4⟩:=settle_at h tree hl hd T hi (by omega)
 obtain⟨_,_,_,l4,l5⟩:=live_all h tree hl (T:=T) hi (by omega)
 have hs:=sF_ids (tree:=tree) hi
 exact⟨Vec.ext4 h1 h2 (by rw[l4,hs.1]) (by rw[l5,hs.2]),h3,d,hd,h4⟩
end
theorem any_congr' {α:Type} {f g:α→Bool}:∀ {l:List α},(∀ a∈l,f a=g a)→l.any f=l.any g
 | [],_=>rfl
 | a::r,h=>by rw[List.any_cons,List.any_cons,h a (by simp),any_congr' (fun b hb=>h b (by simp[hb]))]
structure Stands (n:Net) (tree:Int) (i:Nat) (m:Mind):Prop where
 vec:m.vec=sF n tree i
 port:m.rootPort=pF n tree i
 ports:m.ports=portsOf n.links i
 roles:m.roles=(portsOf n.links i).map (roleF n tree i)
theorem settle_roles {n:Net} (h:n.good) (tree:Int) {l:List Mind} (hl:l.length=n.bridges.length) {i:Nat} (hi:i<n.bridges.length) {T:Nat} (hT:33≤T):Stands n tree i (mAt (tkN n tree l T) i):=by
 obtain⟨h1,h2,_⟩:=settle_vec h tree hl hi (T:=T) (by omega)
 obtain⟨k,rfl⟩:∃ k,T=k+1:=⟨T-1,by omega⟩
 refine⟨h1,h2,by rw[tkN_at (by omega)];rfl,?_⟩
 rw[tkN_at (by omega)]at h1 h2 ⊢
 show rolesP (endsOf n i) (mindOf n tree i (endsOf n i) (tkN n tree l k)).vec (mindOf n tree i (endsOf n i) (tkN n tree l k)).rootPort (hears (endsOf n i) (tkN n tree l k)) (portsOf n.links i)=_
 rw[h1,h2]
 unfold rolesP
 refine List.map_congr_left fun p _=>?_
 unfold roleF
 split
 ·unfold roleOf
  split
  ·rfl
  ·have:(hears (endsOf n i) (tkN n tree l k)).any (Offer.blocks { sF n tree i with port:=p } p)=(offersOf (endsOf n i) (saysN n tree (n.bridges.length+1))).any (Offer.blocks { sF n tree i with port:=p } p):=by
    unfold hears offersOf
    rw[List.any_map,List.any_map]
    refine any_congr' fun e he=>?_
    have he:=mem_endsOf.1 he
    have ho:=adj_ok h he
    obtain⟨q1,_⟩:=settle_vec h tree hl ho.2.2.1 (T:=k) (by omega)
    have ha:=live_all h tree hl ho.2.2.1 (T:=k) (by omega)
    have es:((saysN n tree (n.bridges.length+1))[e.other.toNat]?).getD .zero=sF n tree e.other.toNat:=rfl
    show Offer.blocks _ p (hearOf (tkN n tree l k) e)=Offer.blocks _ p (offerOf (saysN n tree (n.bridges.length+1)) e)
    rw[hearOf_eq]
    unfold offerOf Offer.blocks
    rw[es,q1]
    simp only[decide_eq_true ha.2.1,decide_eq_true ha.2.2.1]
    rfl
   rw[this]
 ·rfl
end Go.Proofs.YtcdhlofhhcgohaaGreat
