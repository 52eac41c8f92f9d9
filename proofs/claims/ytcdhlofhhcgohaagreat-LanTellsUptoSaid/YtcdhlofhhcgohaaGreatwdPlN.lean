/- Contract: plan.Plan. -/
import Derived.Test.YtcdhlofhhcgohaaGreatwdTlc
import Derived.Test.YtcdhlofhhcgohaaGreatwdTld
import Derived.Test.YtcdhlofhhcgohaaGreatwcTlo
import Derived.Test.YtcdhlofhhcgohaaGreatwdPlI
import Derived.Test.YtcdhlofhhcgohaaGreatwdPlP
import Derived.Test.YtcdhlofhhcgohaaGreatwcPlO
namespace Go.Proofs.YtcdhlofhhcgohaaGreat
open Go.RowKit
attribute [local irreducible] SStep DW DWin DOps zaG zaE zaJ retQ zaN FnF FnG FnI FnM Wk IntKind.wrap IntKind.andI IntKind.orI IntKind.xorI IntKind.andNotI IntKind.shlI IntKind.shrI nm ix famM brCS zaA
set_option maxHeartbeats 4000000 in
theorem zrH (n:Net) (h:n.good) (hne:n.bridges≠[]) :
  FnM Tryz.prog 52 ([n.v].map (D.dat false)) [] (.aggd [.sl 950 n.bridges.length,.own 941 0 0 n.links.length]) (netM 0 n):=by
 refine zta (K:=netK n.bridges.length) (t:=2) Tryz.func52 rfl rfl rfl rfl (zl6 0 n) rfl rfl ?_
 simp only[zap]
 have hnb:=h.nb
 have hnl:=h.nl
 have hmb:(n.bridges.map zaj).length=n.bridges.length:=by simp
 have hcb:=zeA n.bridges (by omega)
 have hcl:=zf4 n.links (by omega)
 repeat' (first|refine zcY 1 (bx := .cells false true [.own 940 1 0 n.bridges.length,.own 941 1 0 n.links.length]) rfl ?_|refine qU ?_|(apply dt rfl;case h=>first|exact zaB 940 hcb rfl rfl (.own _ _)|exact zaB 941 hcl rfl rfl (.own _ _))|((first|apply dX rfl|apply Da rfl rfl|apply Db rfl rfl qN);(focus ((try intro hg);first|exact zaB 940 hcb rfl rfl (.own _ _)|exact zaB 941 hcl rfl rfl (.own _ _)|exact qM));constructor)|refine qP ?_)
 intro _
 refine zeY 940 rfl (by decide) (by simpa using hne) ?_
 refine zaZ (s':=⟨[(1,.ptr 1 0),(2,.ptr 2 0)],[(1,.cells false true [.sl 940 n.bridges.length,.own 941 0 0 n.links.length]),(2,.cells false true [.nil,.nil]),(941,.row 0 false true 6 (n.links.map zar)),(940,.cells false true (brCS 0 n.bridges))],41⟩)
  (Wk_g some rfl rfl ⟨⟨⟨_,_,rfl,rfl,by(repeat' (first|exact zdg rfl rfl rfl|exact trivial|rfl|exact zas _|exact⟨_,rfl,.inl rfl⟩|exact⟨_,rfl,.inr (.inl rfl)⟩|exact⟨_,rfl,.inr (.inr rfl)⟩|refine⟨_,_,rfl,rfl,?_⟩|exact⟨_,rfl,rfl⟩|exact⟨_,_,_,_,rfl,rfl,rfl⟩|exact⟨_,rfl⟩|exact⟨_,_,rfl⟩|apply And.intro))⟩,⟨_,_,rfl,rfl,by(repeat' (first|exact trivial|rfl|exact zas _|exact⟨_,rfl,.inl rfl⟩|exact⟨_,rfl,.inr (.inl rfl)⟩|exact⟨_,rfl,.inr (.inr rfl)⟩|refine⟨_,_,rfl,rfl,?_⟩|exact⟨_,rfl,rfl⟩|exact⟨_,_,_,_,rfl,rfl,rfl⟩|exact⟨_,rfl⟩|exact⟨_,_,rfl⟩|apply And.intro))⟩,⟨_,rfl⟩,⟨_,_,rfl,rfl,znR _⟩,trivial⟩,by(repeat' (first|exact trivial|rfl|exact zas _|exact⟨_,rfl,.inl rfl⟩|exact⟨_,rfl,.inr (.inl rfl)⟩|exact⟨_,rfl,.inr (.inr rfl)⟩|refine⟨_,_,rfl,rfl,?_⟩|exact⟨_,rfl,rfl⟩|exact⟨_,_,_,_,rfl,rfl,rfl⟩|exact⟨_,rfl⟩|exact⟨_,_,rfl⟩|apply And.intro))⟩) ?_
 refine zaZ (znQ zad 1 (env' := [(1,.ptr 1 0),(2,.ptr 2 0)]) (pre' := [(1,.cells false true [.sl 950 n.bridges.length,.own 941 0 0 n.links.length]),(2,.cells false true [.nil,.nil]),(941,.row 0 false true 6 (n.links.map zar))]) 940 (by decide) (fun j d h=>.inl (zmS j d h)) rfl rfl rfl kq kq) ?_
 repeat' (first|refine qU ?_|((first|apply dX rfl|apply Da rfl rfl|apply Db rfl rfl qN);(focus ((try intro hg);first|exact zbQ rfl|exact qM));constructor)|refine qP ?_)
 refine zag (fun k:Nat=>⟨[(1,.ptr 1 0),(2,.ptr 2 0),(14,.sl 950 n.bridges.length),(15,.dat true (.int .i64 n.bridges.length)),(16,.dat true (.int .i64 k))],famC zad 1 [(1,.cells false true [.sl 950 n.bridges.length,.own 941 0 0 n.links.length]),(2,.cells false true [.nil,.nil]),(941,.row 0 false true 6 (n.links.map zar))] (brCS k n.bridges) (zaA k n.bridges),41⟩)
  (fun k=>k≤n.bridges.length) (fun k=>n.bridges.length-k) 0 (Nat.zero_le _)
  (by
   rw[show zaA 0 n.bridges=[] by with_unfolding_all rfl]
   refine zcB zad 1 (fun j d h=>.inl (zmS j d h)) rfl rfl rfl (fun k r h=>by cases h) kq kq) (fun k hk=>?_)
 by_cases hlt:k<n.bridges.length
 ·have hb:n.bridges[k]? = some n.bridges[k]:=by simp[hlt]
  have hbo:=h.br n.bridges[k] (List.getElem_mem hlt)
  have hcs:=zpF hb (.own 960 1 0 n.bridges[k].prios.length)
  have htk:=zpJ (k:=k) hb
  have hps:=zkW hb
  have hpl:=zc6 hk
  have hbl:=zcK k n.bridges
  have hok:=zgv (k:=k+1) (bs:=n.bridges) (by omega)
  have how:=zjt (k:=k+1) (Nat.lt_succ_self k) hb
  have huq:=zl4 (k:=k+1) (i:=k) (bs:=n.bridges)
  have hrow:∀ (j:Nat) r,(zaA k n.bridges)[j]? = some r→Mem.at (famC zad 1 [(1,.cells false true [.sl 950 n.bridges.length,.own 941 0 0 n.links.length]),(2,.cells false true [.nil,.nil]),(941,.row 0 false true 6 (n.links.map zar))] (brCS k n.bridges) (zaA k n.bridges)) (nm j) = .row 0 false true 1 (r.map zad):=fun j r h=>za5 zad 1 rfl h
  have h60:Mem.at (famC zad 1 [(1,.cells false true [.sl 950 n.bridges.length,.own 941 0 0 n.links.length]),(2,.cells false true [.nil,.nil]),(941,.row 0 false true 6 (n.links.map zar))] (brCS k n.bridges) (zaA k n.bridges)) 960 = .gone:=zmU zad 1 rfl (by decide) (by decide)
  have h4:Mem.at (famC zad 1 [(1,.cells false true [.sl 950 n.bridges.length,.own 941 0 0 n.links.length]),(2,.cells false true [.nil,.nil]),(941,.row 0 false true 6 (n.links.map zar))] (brCS k n.bridges) (zaA k n.bridges)) 4 = .gone:=zs5 zad 1 (by decide) rfl
  generalize n.bridges[k]=b at hb hbo hcs htk hps how
  have hc1:=zl8 b.prios (by have:=hbo.n;omega)
  have hc2:=zl9 b.region.ways (by have:=hbo.r.l;omega)
  have htk':((brCS k n.bridges).drop (k*5)).take 5=[.dat true (.int .u64 b.addr),.dat false (.slice (b.prios.map zad)),.dat true (.str b.region.name),.dat true (.int .i64 b.region.rev),.dat false (.slice (b.region.ways.map wayV))]:=by
   rw[htk];unfold zec;rw[if_neg (Nat.lt_irrefl k),decide_eq_false (Nat.lt_irrefl k)]
  clear htk
  have b1:Nat.ble (((k:Nat):Int).toNat*5+1+1) (brCS k n.bridges).length=true:=Nat.ble_eq_true_of_le (by rw[hbl,Int.toNat_natCast];omega)
  have s1:splice (brCS k n.bridges) (((k:Nat):Int).toNat*5+1) [D.own 960 1 0 b.prios.length]=(brCS k n.bridges).set (k*5+1) (.own 960 1 0 b.prios.length):=by
   rw[Int.toNat_natCast];exact zb0 (by rw[hbl];omega)
  have b2:Nat.ble (((k:Nat):Int).toNat*5+2+2+1) (splice (brCS k n.bridges) (((k:Nat):Int).toNat*5+1) [D.own 960 1 0 b.prios.length]).length=true:=Nat.ble_eq_true_of_le (by rw[s1,List.length_set,hbl,Int.toNat_natCast];omega)
  have s2:splice (splice (brCS k n.bridges) (((k:Nat):Int).toNat*5+1) [D.own 960 1 0 b.prios.length]) (((k:Nat):Int).toNat*5+2+2) [D.dat true (.slice (b.region.ways.map wayV))]=(brCS (k+1) n.bridges).set (k*5+1) (.own 960 1 0 b.prios.length):=by
   rw[s1,←hcs,Int.toNat_natCast];exact zb0 (by rw[List.length_set,hbl];omega)
  repeat' (first|refine qU ?_|refine qW ?_|(apply dt rfl;case h=>first|exact zaB 960 hc1 rfl h60 (.own _ _))|((first|apply dX rfl|apply Da rfl rfl|apply Db rfl rfl qN);(focus ((try intro hg);first|exact zaF 4 h4|exact zdE rfl rfl (by omega) (by omega)|exact zpK rfl rfl htk' (by rw[hbl];simp only[Int.toNat_natCast];omega)|exact zaB 960 hc1 rfl h60 (.own _ _)|exact zac hc2 rfl|exact zbg rfl rfl rfl rfl rfl b1|exact zbg rfl rfl rfl rfl rfl b2|exact qMo));constructor)|refine qP ?_)
  refine zaa (k+1) hlt (by omega) ?_
  rw[hps]at hok ⊢
  rw[s2]
  refine znP zad 1 (k*5+1) hok (by rw[hpl];exact how) (fun j len h=>huq j len (by rw[hpl]at h;exact h)) rfl rfl rfl rfl rfl (fun j r h=>?_) kq kq
  simp (discharger:=decide) only[zdd]
  exact hrow j r h
 ·have he:k=n.bridges.length:=by omega
  subst he
  repeat' (first|refine qU ?_|refine qW ?_|((first|apply dX rfl|apply Da rfl rfl|apply Db rfl rfl qN);(focus ((try intro hg);first|exact qMo));constructor)|refine qP ?_)
  refine⟨2,_,_,rfl,rfl,List.map_congr_left fun g hg=>?_⟩
  rcases zep hg with rfl|rfl|⟨j,hj,rfl⟩
  ·rfl
  ·rfl
  ·have hj':(zaA n.bridges.length n.bridges)[j]? = some (n.bridges[j].prios):=by rw[zcq hj];simp[hj]
   simp (discharger:=decide) only[zdd]
   rw[za5 zad 1 rfl hj']
   exact(za5 zad 1 rfl hj').symm
end Go.Proofs.YtcdhlofhhcgohaaGreat
namespace Go.Proofs.YtcdhlofhhcgohaaGreat
open Go.RowKit
attribute [local irreducible] SStep DW DWin DOps zaG zaE zaJ retQ zaN FnF FnG FnI Wk IntKind.wrap IntKind.andI IntKind.orI IntKind.xorI IntKind.andNotI IntKind.shlI IntKind.shrI
set_option maxHeartbeats 1000000 in
theorem zma (ends:List End) (l:List Mind) (hl:ends.length≤1000) (ho:∀ e∈ends,0≤e.other∧e.other<l.length):FnF Tryz.prog 135 [.slice (ends.map endV),.slice (l.map Mind.cells)] (offers (hears ends l)):=by
 refine zal Tryz.func135 rfl rfl rfl ?_
 simp only[zap,offers]
 have hml:(ends.map endV).length=ends.length:=by simp
 have hms:(l.map Mind.cells).length=l.length:=by simp
 repeat' (first|refine qU ?_|((first|apply dX rfl|apply Da rfl rfl|apply Db rfl rfl qN);(focus ((try intro hg);first|exact qM));constructor)|refine qP ?_)
 refine zag (fun p:Nat×List Offer=>⟨[(1,.dat false (.slice (l.map Mind.cells))),(5,.own 5 0 0 p.2.length),(9,.dat false (.slice (ends.map endV))),(10,.dat true (.int .i64 (ends.map endV).length)),(11,.dat true (.int .i64 p.1))],[(5,.row 0 false true 7 (p.2.map Offer.cells))],41⟩)
  (fun p=>p.1≤ends.length∧p.2=hears (ends.take p.1) l) (fun p=>ends.length-p.1) (0,[]) ⟨Nat.zero_le _,rfl⟩
  (Wk_g (fun g=>if g=5 then none else some g) rfl rfl kq) (fun p hR=>?_)
 obtain⟨k,us⟩:=p
 obtain⟨hk,hus⟩:=hR
 simp only at hk hus
 dsimp only
 have hul:us.length=k:=by rw[hus];simp[hears];omega
 by_cases hlt:k<ends.length
 ·have hx:ends[(k:Int).toNat]? = some ends[k]:=by simp[hlt]
  have hr:=ho ends[k] (List.getElem_mem hlt)
  have hnext:us++[zfY l ends[k]]=hears (ends.take (k+1)) l:=by
   rw[hus,List.take_add_one,List.getElem?_eq_getElem hlt];unfold hears;rw[List.map_append];rfl
  generalize ends[k]=e at hx hr hnext
  have hy:l[e.other.toNat]? = some (l[e.other.toNat]'(by omega)):=List.getElem?_eq_getElem (by omega)
  have hoe:zfY l e=⟨e.port,e.cost,(l[e.other.toNat]'(by omega)).age,{ (l[e.other.toNat]'(by omega)).vec with port:=e.oport }⟩:=by unfold zfY;rw[hy];rfl
  generalize l[e.other.toNat]'(by omega)=m at hy hoe
  repeat' (first|refine qU ?_|refine qW ?_|((first|apply dX rfl|apply Da rfl rfl|apply Db rfl rfl qN);(focus ((try intro hg);first|exact zaf rfl rfl (by omega) hx|exact zaf rfl rfl hr.1 hy|exact zan (f:=Offer.cells) (us:=us) (bs := [zfY l e]) rfl rfl (.dat _ _) (by rw[hoe];rfl) rfl (.inr ⟨rfl,inferInstance⟩) rfl (by simp only[List.length_singleton];omega)|exact qMo));constructor)|refine qP ?_)
  exact zaa (k+1,us++[zfY l e]) ⟨hlt,hnext⟩ (by simp only;omega) (Wk_g some rfl rfl kq)
 ·have he:us=hears ends l:=by rw[hus,List.take_of_length_le (by omega)]
  refine zaR 5 rfl rfl (by simp) ?_
  repeat' (first|refine qU ?_|refine qW ?_|((first|apply dX rfl|apply Da rfl rfl|apply Db rfl rfl qN);(focus ((try intro hg);first|exact qMo));constructor)|refine qP ?_)
  refine ret1 rfl qF ?_
  rw[←he]
theorem zk4 {rs calm:List Int} {k:Nat} {r c:Int} (hr:rs[k]? = some r) (hc:calm[k]? = some c):(zbL rs calm).take (k+1)=(zbL rs calm).take k++[zcy r c]:=by
 have hk:=(List.getElem?_eq_some_iff.1 hr).1
 have:(zbL rs calm)[k]? = some (zcy r c):=by
  unfold zbL
  rw[List.getElem?_map,List.getElem?_range hk,Option.map_some,hr,hc];rfl
 rw[List.take_add_one,this];rfl
set_option maxHeartbeats 4000000 in
theorem zpX (n:Net) (h:n.good) (tree:Int) (i:Nat) (hi:i<n.bridges.length) (l:List Mind) (m:Mind) (hm:l[i]? = some m) (hll:l.length=n.bridges.length) (hcl:m.calm.length=(zah n.links i).length) (hcr:∀ c∈m.calm,0≤c∧c≤50) :
  FnF Tryz.prog 103 [.rp n.cells,.int .i64 tree,.int .i64 i,.slice ((zaL n i).map endV),.slice (l.map Mind.cells)] (.agg (zdf n tree i (zaL n i) l).cells):=by
 refine zal Tryz.func103 rfl rfl rfl ?_
 simp only[zap]
 have hmb:(n.bridges.map zaj).length=n.bridges.length:=by simp
 have hnb:=h.nb
 have hnl:=h.nl
 have hel:=znt n i
 have hx:n.bridges[(i:Int).toNat]? = some n.bridges[i]:=by simp[hi]
 have hx':n.bridges[i]? = some n.bridges[i]:=by simp[hi]
 have hbo:=h.br n.bridges[i] (List.getElem_mem hi)
 have hidn:=zmH (tree:=tree) hx'
 have hid:=zh8 n.bridges[i] hbo tree
 rw[←hidn]at hid
 have hof:=zma (zaL n i) l (by omega) (fun e he=>by
  have h3:=(zjc h (zco.1 he)).2.2.1
  have:=(zjc h (zco.1 he))
  omega)
 generalize n.bridges[i]=b at hx hid
 have hy:l[(i:Int).toNat]? = some m:=by rw[Int.toNat_natCast];exact hm
 have hlm:(l.map Mind.cells).length=l.length:=by simp
 have hil:i<l.length:=by omega
 have hmo:zdf n tree i (zaL n i) l=⟨(zaK (idN n tree i) (hears (zaL n i) l)).says (idN n tree i),(zaK (idN n tree i) (hears (zaL n i) l)).age,(zaK (idN n tree i) (hears (zaL n i) l)).port,zah n.links i,
   zde (zaL n i) ((zaK (idN n tree i) (hears (zaL n i) l)).says (idN n tree i)) (zaK (idN n tree i) (hears (zaL n i) l)).port (hears (zaL n i) l) (zah n.links i),
   zbL (zde (zaL n i) ((zaK (idN n tree i) (hears (zaL n i) l)).says (idN n tree i)) (zaK (idN n tree i) (hears (zaL n i) l)).port (hears (zaL n i) l) (zah n.links i)) m.calm⟩:=by
  unfold zdf
  rw[hm]
  rfl
 rw[hmo]
 generalize hears (zaL n i) l=os at hof
 generalize idN n tree i=me at hid
 have hch:=zne me os
 generalize hc0:zaK me os=c at hch
 generalize c.says me=v at hch
 obtain⟨cb,cage,cport⟩:=c
 simp only at hch ⊢
 have hro:=znI n hnl i (zaL n i) v cport os
 have hrl:=zek (zaL n i) v cport os (zah n.links i)
 have hpl:(zah n.links i).length≤80:=by
  have:=zbz n.links i
  rw[zaW];unfold zcj;rw[List.length_mergeSort];omega
 generalize zde (zaL n i) v cport os (zah n.links i)=rs at hro hrl
 generalize zah n.links i=ps at hro hrl hcl hpl
 have hmr:(rs.map zad).length=rs.length:=by simp
 have hmc:(m.calm.map zad).length=m.calm.length:=by simp
 repeat' (first|refine qU ?_|refine qW ?_|((first|apply dX rfl|apply Da rfl rfl|apply Db rfl rfl qN);(focus ((try intro hg);first|exact zac hof rfl|exact zaf rfl rfl (by omega) hx|exact zac hid rfl|exact zac hch rfl|exact zac hro rfl|exact qMo));constructor)|refine qP ?_)
 refine zag (fun q:Nat×List Int=>⟨[(2,.dat false (.int .i64 i)),(4,.dat false (.slice (l.map Mind.cells))),(10,.ptr 10 0),(12,.ptr 12 0),(52,.dat true (.slice (rs.map zad))),(53,.dat true (.int .i64 (rs.map zad).length)),(54,.dat true (.int .i64 q.1))],
   [(10,.cells false true (Mind.zero.cells.map V.zD)),(12,.cells false true (v.cells.map (.dat true)++[.dat true (.int .i64 cage),.dat true (.int .i64 cport),.dat true (.slice (ps.map zad)),.dat true (.slice (rs.map zad)),.own 79 q.2.length 0 q.2.length])),(79,.row q.2.length false true 1 (q.2.map zad))],83⟩)
  (fun q=>q.1≤rs.length∧q.2=(zbL rs m.calm).take q.1) (fun q=>rs.length-q.1) (0,[]) ⟨Nat.zero_le _,rfl⟩
  (Wk_g (fun g=>if g=79 then none else some g) rfl rfl kq) (fun q hR=>?_)
 obtain⟨k,us⟩:=q
 obtain⟨hk,hus⟩:=hR
 simp only at hk hus
 dsimp only
 have hul:us.length=k:=by rw[hus,List.length_take,zc2];omega
 by_cases hlt:k<rs.length
 ·have hxr:rs[(k:Int).toNat]? = some rs[k]:=by simp[hlt]
  have hxr':rs[k]? = some rs[k]:=by simp[hlt]
  have hxc:m.calm[(k:Int).toNat]? = some (m.calm[k]'(by omega)):=by simp[show k<m.calm.length by omega]
  have hxc':m.calm[k]? = some (m.calm[k]'(by omega)):=by simp[show k<m.calm.length by omega]
  have hcb:=hcr (m.calm[k]'(by omega)) (List.getElem_mem _)
  have hst:=zk4 hxr' hxc'
  generalize rs[k]=r at hxr hst
  generalize m.calm[k]'(by omega)=cc at hxc hcb hst
  by_cases hr:r=1∨r=2
  ·have hcm:zcy r cc=min cc 49+1:=by unfold zcy;rw[if_pos hr];split<;>omega
   rw[hcm]at hst
   rcases hr with hr|hr
   ·repeat' (first|refine qU ?_|refine qW ?_|((first|apply dX rfl|apply Da rfl rfl|apply Db rfl rfl qN);(focus ((try intro hg);first|exact zaf rfl rfl (by omega) hxr|exact zaf rfl rfl (by omega) hy|exact zaf rfl rfl (by omega) hxc|exact zsp rfl rfl|exact zan (f:=zad) (us:=us) (bs := [min cc 49+1]) rfl rfl (.dat _ _) rfl rfl (.inr ⟨rfl,inferInstance⟩) rfl (by simp only[List.length_singleton];omega)|exact qMo));constructor)|refine qP ?_)
    exact zaa (k+1,us++[min cc 49+1]) ⟨hlt,by rw[hus,←hst]⟩ (by simp only;omega) (Wk_g some rfl rfl kqp)
   ·repeat' (first|refine qU ?_|refine qW ?_|((first|apply dX rfl|apply Da rfl rfl|apply Db rfl rfl qN);(focus ((try intro hg);first|exact zaf rfl rfl (by omega) hxr|exact zaf rfl rfl (by omega) hy|exact zaf rfl rfl (by omega) hxc|exact zsp rfl rfl|exact zan (f:=zad) (us:=us) (bs := [min cc 49+1]) rfl rfl (.dat _ _) rfl rfl (.inr ⟨rfl,inferInstance⟩) rfl (by simp only[List.length_singleton];omega)|exact qMo));constructor)|refine qP ?_)
    exact zaa (k+1,us++[min cc 49+1]) ⟨hlt,by rw[hus,←hst]⟩ (by simp only;omega) (Wk_g some rfl rfl kqp)
  ·have hcm:zcy r cc=0:=by unfold zcy;rw[if_neg hr]
   rw[hcm]at hst
   repeat' (first|refine qU ?_|refine qW ?_|((first|apply dX rfl|apply Da rfl rfl|apply Db rfl rfl qN);(focus ((try intro hg);first|exact zaf rfl rfl (by omega) hxr|exact zan (f:=zad) (us:=us) (bs := [0]) rfl rfl (.dat _ _) rfl rfl (.inr ⟨rfl,inferInstance⟩) rfl (by simp only[List.length_singleton];omega)|exact qMo));constructor)|refine qP ?_)
   exact zaa (k+1,us++[0]) ⟨hlt,by rw[hus,←hst]⟩ (by simp only;omega) (Wk_g some rfl rfl kqp)
 ·have he:us=zbL rs m.calm:=by rw[hus,List.take_of_length_le (by rw[zc2];omega)]
  refine zaZ (s':=⟨[(10,.ptr 10 0),(12,.ptr 12 0),(53,.dat true (.int .i64 (rs.map zad).length)),(54,.dat true (.int .i64 k))],
   [(10,.cells false true (Mind.zero.cells.map V.zD)),(12,.cells false true (v.cells.map (.dat true)++[.dat true (.int .i64 cage),.dat true (.int .i64 cport),.dat true (.slice (ps.map zad)),.dat true (.slice (rs.map zad)),.own 79 0 0 us.length])),(79,.row 0 false true 1 (us.map zad))],83⟩) (Wk_g some rfl rfl kqp) ?_
  refine zaD 79 (fun _ _ _ h=>by cases h) ?_
  repeat' (first|refine qU ?_|refine qW ?_|((first|apply dX rfl|apply Da rfl rfl|apply Db rfl rfl qN);(focus ((try intro hg);first|exact qMo));constructor)|refine qP ?_)
  refine retN (.cellA inferInstance rfl rfl rfl rfl qF .nil) ?_
  rw[he]
  show V.agg [_,_,_,_,_,_,_,_,V.slice (List.take _ (List.drop 0 _))]=_
  rw[List.drop_zero,List.take_of_length_le (by simp)]
  rfl
set_option maxHeartbeats 4000000 in
theorem zk5 (n:Net) (h:n.good) (t:List (List Mind)) (ht:goodT n t) :
  FnF Tryz.prog 56 [.rp n.cells,.slice (((List.range n.bridges.length).map (zaL n)).map zdK),zaO t] (zaO (zc0 n t)):=by
 refine zal Tryz.func56 rfl rfl rfl ?_
 simp only[zap,zaO]
 have hmt:(t.map zae).length=t.length:=by simp
 have hnb:=h.nb
 have htl:=ht.l
 repeat' (first|refine qU ?_|refine qW ?_|((first|apply dX rfl|apply Da rfl rfl|apply Db rfl rfl qN);(focus ((try intro hg);first|exact qMo));constructor)|refine qP ?_)
 refine zag (fun q:Nat×List (List Mind)=>⟨[(0,.dat false (.rp n.cells)),(1,.dat false (.slice (((List.range n.bridges.length).map (zaL n)).map zdK))),(6,.ptr 6 0),(7,.ptr 7 0),(13,.dat false (.slice (t.map zae))),(14,.dat true (.int .i64 (t.map zae).length)),(15,.dat true (.int .i64 q.1))],
   [(6,.cells false true [.nil]),(7,.cells false true [.own 42 q.2.length 0 q.2.length]),(42,.row q.2.length false true 1 (q.2.map zae))],46⟩)
  (fun q=>q.1≤t.length∧q.2=(zc0 n t).take q.1) (fun q=>t.length-q.1) (0,[]) ⟨Nat.zero_le _,rfl⟩
  (Wk_g (fun g=>if g=42 then none else some g) rfl rfl kq) (fun q hR=>?_)
 obtain⟨k,us⟩:=q
 obtain⟨hk,hus⟩:=hR
 simp only at hk hus
 dsimp only
 have htk:(zc0 n t).length=t.length:=by simp[zc0]
 have hul:us.length=k:=by rw[hus,List.length_take];omega
 by_cases hlt:k<t.length
 ·have hx:t[(k:Int).toNat]? = some t[k]:=by simp[hlt]
  have hx':t[k]? = some t[k]:=by simp[hlt]
  obtain⟨hl,hm⟩:=ht.m t[k] (List.getElem_mem hlt)
  have hst:(zc0 n t).take (k+1)=us++[zc8 n k t[k]]:=by
   have:(zc0 n t)[k]? = some (zc8 n k t[k]):=by
    unfold zc0
    rw[List.getElem?_map,List.getElem?_range hlt,Option.map_some,hx'];rfl
   rw[List.take_add_one,this,hus];rfl
  generalize t[k]=l at hx hl hm hst
  have hml:(l.map Mind.cells).length=l.length:=by simp
  repeat' (first|refine qU ?_|refine qW ?_|((first|apply dX rfl|apply Da rfl rfl|apply Db rfl rfl qN);(focus ((try intro hg);first|exact zaf rfl rfl (by omega) hx|exact qMo));constructor)|refine qP ?_)
  refine zag (fun q:Nat×List Mind=>⟨[(0,.dat false (.rp n.cells)),(1,.dat false (.slice (((List.range n.bridges.length).map (zaL n)).map zdK))),(6,.ptr 6 0),(7,.ptr 7 0),(13,.dat false (.slice (t.map zae))),(14,.dat true (.int .i64 (t.map zae).length)),(15,.dat true (.int .i64 k)),(8,.dat true (.int .i64 k)),(9,.dat false (.slice (l.map Mind.cells))),(10,.own 36 0 0 q.2.length),(21,.dat true (.int .i64 (l.map Mind.cells).length)),(22,.dat true (.int .i64 q.1))],
    [(6,.cells false true [.nil]),(7,.cells false true [.own 42 us.length 0 us.length]),(42,.row us.length false true 1 (us.map zae)),(36,.row 0 false true 9 (q.2.map Mind.cells))],46⟩)
   (fun q=>q.1≤l.length∧q.2=(zc8 n k l).take q.1) (fun q=>l.length-q.1) (0,[]) ⟨Nat.zero_le _,rfl⟩
   (Wk_g (fun g=>if g=36 then none else some g) rfl rfl kqp) (fun q hR=>?_)
  obtain⟨j,vs⟩:=q
  obtain⟨hj,hvs⟩:=hR
  simp only at hj hvs
  dsimp only
  have htt:(zc8 n k l).length=l.length:=by simp[zc8]
  have hvl:vs.length=j:=by rw[hvs,List.length_take];omega
  by_cases hlj:j<l.length
  ·have hy':l[j]? = some l[j]:=by simp[hlj]
   have hgm:=hm j l[j] hy'
   have hmi:=zpX n h k j (by omega) l l[j] hy' hl hgm.c hgm.b
   have hxe:((List.range n.bridges.length).map (zaL n))[(j:Int).toNat]? = some (zaL n j):=by simp[show j<n.bridges.length by omega]
   have hst2:(zc8 n k l).take (j+1)=vs++[zdf n k j (zaL n j) l]:=by
    have:(zc8 n k l)[j]? = some (zdf n k j (zaL n j) l):=by
     unfold zc8
     rw[List.getElem?_map,List.getElem?_range hlj];rfl
    rw[List.take_add_one,this,hvs];rfl
   generalize zdf n k j (zaL n j) l=mo at hmi hst2
   repeat' (first|refine qU ?_|refine qW ?_|((first|apply dX rfl|apply Da rfl rfl|apply Db rfl rfl qN);(focus ((try intro hg);first|exact zaf rfl rfl (by omega) hxe|exact zac hmi rfl|exact zan (f:=Mind.cells) (us:=vs) (bs := [mo]) rfl rfl (.dat _ _) rfl rfl (.inl rfl) rfl (by simp only[List.length_singleton];omega)|exact qMo));constructor)|refine qP ?_)
   exact zaa (j+1,vs++[mo]) ⟨hlj,hst2.symm⟩ (by simp only;omega) (Wk_g some rfl rfl kqp)
  ·have he:vs=zc8 n k l:=by rw[hvs,List.take_of_length_le (by omega)]
   refine zaR 10 rfl rfl (by simp) ?_
   repeat' (first|refine qU ?_|refine qW ?_|((first|apply dX rfl|apply Da rfl rfl|apply Db rfl rfl qN);(focus ((try intro hg);first|exact zan (f:=zae) (us:=us) (bs := [vs]) rfl rfl (.dat _ _) rfl rfl (.inl rfl) rfl (by simp only[List.length_singleton];omega)|exact qMo));constructor)|refine qP ?_)
   exact zaa (k+1,us++[vs]) ⟨hlt,by rw[hst,he]⟩ (by simp only;omega) (Wk_g some rfl rfl kqp)
 ·have he:us=zc0 n t:=by rw[hus,List.take_of_length_le (by omega)]
  refine zaZ (s':=⟨[(6,.ptr 6 0),(7,.ptr 7 0),(14,.dat true (.int .i64 (t.map zae).length)),(15,.dat true (.int .i64 k))],
   [(6,.cells false true [.nil]),(7,.cells false true [.own 42 0 0 us.length]),(42,.row 0 false true 1 (us.map zae))],46⟩) (Wk_g some rfl rfl kqp) ?_
  refine zaD 42 (fun _ _ _ h=>by cases h) ?_
  repeat' (first|refine qU ?_|refine qW ?_|((first|apply dX rfl|apply Da rfl rfl|apply Db rfl rfl qN);(focus ((try intro hg);first|exact qMo));constructor)|refine qP ?_)
  refine retN (.cellA inferInstance rfl rfl rfl rfl qF .nil) ?_
  rw[he]
  show V.agg [V.slice (List.take _ (List.drop 0 _))]=_
  rw[List.drop_zero,List.take_of_length_le (by simp)]
end Go.Proofs.YtcdhlofhhcgohaaGreat
namespace Go.Proofs.YtcdhlofhhcgohaaGreat
open Go.RowKit
attribute [local irreducible] SStep DW DWin DOps zaG zaE zaJ retQ zaN FnF FnG FnI Wk IntKind.wrap IntKind.andI IntKind.orI IntKind.xorI IntKind.andNotI IntKind.shlI IntKind.shrI Region.wrong Bridge.wrong Link.wrong Bridge.prio zb3 zdR rawE famX ctrD famM idsR srtX zdQ
theorem zmb {xs:List (List End)} {A:Nat} {d:D} (h:A<xs.length):((ctrD xs).set A d)[((A:Nat):Int).toNat*1]? = some d:=by
 rw[Int.toNat_natCast,Nat.mul_one,List.getElem?_set_self (by rw[zdc];exact h)]
theorem zpY {xs:List (List End)} {A:Nat} {d:D} (h:A<xs.length):Nat.ble (((A:Nat):Int).toNat*1+1) ((ctrD xs).set A d).length=true:=by
 apply Nat.ble_eq_true_of_le
 rw[Int.toNat_natCast,List.length_set,zdc];omega
theorem zix {xs:List (List End)} {A:Nat} {d d':D} (h:A<xs.length):splice ((ctrD xs).set A d) (((A:Nat):Int).toNat*1) [d']=(ctrD xs).set A d':=by
 rw[Int.toNat_natCast,Nat.mul_one,zb0 (by rw[List.length_set,zdc];exact h),List.set_set]
set_option maxHeartbeats 4000000 in
theorem znV (n:Net) (hlk:∀ l∈n.links,l.ok n.bridges.length) (hn:n.links.length≤40) (hb12:n.bridges.length≤12)
  (hs:∀ i<n.bridges.length,FnI Tryz.prog 101 [.own 1000 0 0 (rawE (za3 n) i).length,.dat false (.fn 102 [])] [(1000,.row 0 false true 4 ((rawE (za3 n) i).map endV))] [(1000,.row 0 false true 4 ((zdR (rawE (za3 n) i)).map endV))]) :
  FnF Tryz.prog 55 [.rp n.cells,.slice ((idsR n.bridges).map zbe)] (.slice (((List.range n.bridges.length).map (zaL n)).map zdK)):=by
 refine zal Tryz.func55 rfl rfl rfl ?_
 simp only[zap]
 rw[←zq9]
 obtain⟨nb,hnb⟩:∃ nb,nb=n.bridges.length:=⟨_,rfl⟩
 rw[←hnb]at hlk hs hb12 ⊢
 have hmb:(n.bridges.map zaj).length=nb:=by simp[hnb]
 have hml:(n.links.map zar).length=n.links.length:=by simp
 have hidl:(idsR n.bridges).length=nb:=by unfold idsR;simp[hnb]
 repeat' (first|(apply dt rfl;case h=>exact ztY (l:=nb) _ rfl rfl (by rw[hmb]) (by rw[hmb]) (by omega) rfl)|refine qU ?_|((first|apply dX rfl|apply Da rfl rfl|apply Db rfl rfl qN);(focus ((try intro hg);first|exact qM));constructor)|refine qP ?_)
 have hx0:=zq4 nb
 refine zag (fun k:Nat=>⟨[(0,.dat false (.rp n.cells)),(1,.dat false (.slice ((idsR n.bridges).map zbe))),(5,.sl 950 nb),(19,.dat false (.slice (n.links.map zar))),(20,.dat true (.int .i64 (n.links.map zar).length)),(21,.dat true (.int .i64 k))],famS endV 4 [] (famX nb ((n.links.take k).filter (zdQ n.bridges))),93⟩)
  (fun k=>k≤n.links.length) (fun k=>n.links.length-k) 0 (Nat.zero_le _)
  (by
   show Wk _ ⟨_,famS endV 4 [] (famX nb []),93⟩
   rw[hx0]
   exact zo4 endV 4 15 (by decide) rfl rfl rfl kq kq) (fun k hk=>?_)
 by_cases hlt:k<n.links.length
 ·have hx:n.links[(k:Int).toNat]? = some n.links[k]:=by simp[hlt]
  have hl:=hlk n.links[k] (List.getElem_mem hlt)
  have hst:=zks (bs:=n.bridges) (show n.links[k]? = some n.links[k] by simp[hlt])
  have hle:=zo8 n k
  generalize n.links[k]=l at hx hl hst
  have hxa:(idsR n.bridges)[l.a.toNat]? = some ((idsR n.bridges)[l.a.toNat]'(by have:=hl.a1;have:=hl.a0;omega)):=List.getElem?_eq_getElem _
  have hxb:(idsR n.bridges)[l.b.toNat]? = some ((idsR n.bridges)[l.b.toNat]'(by have:=hl.b1;have:=hl.b0;omega)):=List.getElem?_eq_getElem _
  generalize (idsR n.bridges)[l.a.toNat]'(by have:=hl.a1;have:=hl.a0;omega)=ra at hxa
  generalize (idsR n.bridges)[l.b.toNat]'(by have:=hl.b1;have:=hl.b0;omega)=rb at hxb
  have hbe:=bytes_Equal ra rb
  have hlv:zdQ n.bridges l=(l.up && decide (ra=rb)):=by with_unfolding_all (unfold zdQ;rw[hxa,hxb];simp)
  rw[hlv]at hst
  generalize (n.links.take k).filter (zdQ n.bridges)=ls at hst hle
  have hstep:=zo6 (ls:=ls) hl
  obtain⟨a,pa,b,pb,cost,up⟩:=l
  cases up with
  | false =>
   simp only[Bool.false_and,Bool.false_eq_true,if_false,List.append_nil]at hst
   repeat' (first|(apply dt rfl;case h=>exact zaF _ (zo3 endV 4 (by decide) rfl))|refine qU ?_|((first|apply dX rfl|apply Da rfl rfl|apply Db rfl rfl qN);(focus ((try intro hg);first|exact zab (zam rfl rfl) (decide_eq_true (by omega:(k:Int)<((n.links.map zar).length:Int)))|exact zaf rfl rfl (by omega) hx|exact qM));constructor)|refine qP ?_)
   refine zaa (k+1) hlt (by omega) ?_
   rw[hst]
   refine zgn endV 4 rfl rfl ?_ (fun k r h=>?_) ?_ ?_
   ·exact zdI endV 4 rfl
   ·simp (discharger:=decide) only[zdd]
    exact zcJ endV 4 rfl h
   ·(repeat' (first|exact trivial|rfl|exact zas _|exact⟨_,rfl,.inl rfl⟩|exact⟨_,rfl,.inr (.inl rfl)⟩|exact⟨_,rfl,.inr (.inr rfl)⟩|refine⟨_,_,rfl,rfl,?_⟩|exact⟨_,rfl,rfl⟩|exact⟨_,_,_,_,rfl,rfl,rfl⟩|exact⟨_,rfl⟩|exact⟨_,_,rfl⟩|apply And.intro))
   ·(repeat' (first|exact trivial|rfl|exact zas _|exact⟨_,rfl,.inl rfl⟩|exact⟨_,rfl,.inr (.inl rfl)⟩|exact⟨_,rfl,.inr (.inr rfl)⟩|refine⟨_,_,rfl,rfl,?_⟩|exact⟨_,rfl,rfl⟩|exact⟨_,_,_,_,rfl,rfl,rfl⟩|exact⟨_,rfl⟩|exact⟨_,_,rfl⟩|apply And.intro))
  | true =>
   simp only[Bool.true_and,decide_eq_true_eq]at hst
   by_cases hr:ra=rb
   ·subst hr
    rw[if_pos rfl]at hst
    rw[decide_eq_true rfl]at hbe
    obtain⟨A,rfl⟩:∃ A:Nat,a=(A:Int):=⟨a.toNat,by have:=hl.a0;simp only at this;omega⟩
    obtain⟨B,rfl⟩:∃ B:Nat,b=(B:Int):=⟨b.toNat,by have:=hl.b0;simp only at this;omega⟩
    have hAn:A<nb:=by have:=hl.a1;simp only at this;omega
    have hBn:B<nb:=by have:=hl.b1;simp only at this;omega
    have hAB:A≠B:=by have:=hl.ne;simp only at this;omega
    simp only[Int.toNat_natCast]at hstep
    have gA:(famX nb ls)[A]? = some (rawE ls A):=zej hAn
    have gB:(famX nb ls)[B]? = some (rawE ls B):=zej hBn
    have lA:=zjb ls A
    have lB:=zjb ls B
    have hXl:(famX nb ls).length=nb:=zdJ nb ls
    generalize rawE ls A=RA at gA lA hstep
    generalize rawE ls B=RB at gB lB hstep
    generalize famX nb ls=X at gA gB hXl hstep
    refine zfC endV 4 (env' := [(0,.dat false (.rp n.cells)),(1,.dat false (.slice ((idsR n.bridges).map zbe))),(5,.sl 950 nb),(19,.dat false (.slice (n.links.map zar))),(20,.dat true (.int .i64 (n.links.map zar).length)),(21,.dat true (.int .i64 k))]) (pre' := []) A gA rfl rfl rfl (fun T=>by(repeat' (first|exact trivial|rfl|exact zas _|exact⟨_,rfl,.inl rfl⟩|exact⟨_,rfl,.inr (.inl rfl)⟩|exact⟨_,rfl,.inr (.inr rfl)⟩|refine⟨_,_,rfl,rfl,?_⟩|exact⟨_,rfl,rfl⟩|exact⟨_,_,_,_,rfl,rfl,rfl⟩|exact⟨_,rfl⟩|exact⟨_,_,rfl⟩|apply And.intro))) (fun T=>by(repeat' (first|exact trivial|rfl|exact zas _|exact⟨_,rfl,.inl rfl⟩|exact⟨_,rfl,.inr (.inl rfl)⟩|exact⟨_,rfl,.inr (.inr rfl)⟩|refine⟨_,_,rfl,rfl,?_⟩|exact⟨_,rfl,rfl⟩|exact⟨_,_,_,_,rfl,rfl,rfl⟩|exact⟨_,rfl⟩|exact⟨_,_,rfl⟩|apply And.intro))) (fun T hT0 hT=>?_)
    have hg:=zmb (xs:=X) (d := .own 960 0 0 RA.length) (A:=A) (by omega)
    have hb:=zpY (xs:=X) (d := .own 960 0 0 RA.length) (A:=A) (by omega)
    have hsp:=zix (xs:=X) (d := .own 960 0 0 RA.length) (d' := .own 960 1 0 (RA++[(⟨pa,cost,B,pb⟩:End)]).length) (A:=A) (by omega)
    generalize (ctrD X).set A (.own 960 0 0 RA.length)=CS at hg hb hsp
    dsimp only[List.nil_append]
    repeat' (first|refine zcY 960 (bx := .row 1 false true 4 ((RA++[(⟨pa,cost,B,pb⟩:End)]).map endV)) rfl ?_|(apply dt rfl;case h=>exact zaF _ (hT0 _ (by decide)))|refine qU ?_|((first|apply dX rfl|apply Da rfl rfl|apply Db rfl rfl qN);(focus ((try intro hg);first|exact zab (zam rfl rfl) (decide_eq_true (by omega:(k:Int)<((n.links.map zar).length:Int)))|exact zaf rfl rfl (by omega) hx|exact zaf (f:=zbe) rfl rfl hl.a0 hxa|exact zaf (f:=zbe) rfl rfl hl.b0 hxb|exact zac hbe rfl|exact zdE rfl rfl hl.a0 hl.a1|exact zaI (d := .own 960 0 0 RA.length) rfl rfl hg|exact zan (f:=endV) (us:=RA) (bs := [(⟨pa,cost,B,pb⟩:End)]) rfl rfl (.dat _ _) rfl rfl (.inr ⟨rfl,inferInstance⟩) rfl (by simp only[List.length_singleton];omega)|exact zbg rfl rfl rfl rfl rfl hb|exact qM));constructor)|refine qP ?_)
    intro _
    refine zaZ (zgZ endV 4 A (env' := [(7,.ptr 7 0),(0,.dat false (.rp n.cells)),(1,.dat false (.slice ((idsR n.bridges).map zbe))),(5,.sl 950 nb),(19,.dat false (.slice (n.links.map zar))),(20,.dat true (.int .i64 (n.links.map zar).length)),(21,.dat true (.int .i64 k))]) (pre' := [(7,.cells false true ((zar ⟨A,pa,B,pb,cost,true⟩).map (.dat false)))]) (xs:=X) (r':=RA++[(⟨pa,cost,B,pb⟩:End)]) (by omega) rfl rfl rfl rfl hsp (fun k r h1 h2=>?_) kq kq) ?_
    ·simp (discharger:=decide) only[zdd]
     exact hT k r h1 h2
    show DW _ _ _ ⟨_,_,93⟩
    have gB':(X.set A (RA++[(⟨pa,cost,B,pb⟩:End)]))[B]? = some RB:=by rw[List.getElem?_set_ne hAB];exact gB
    have hXl':(X.set A (RA++[(⟨pa,cost,B,pb⟩:End)])).length=nb:=by rw[List.length_set];exact hXl
    generalize X.set A (RA++[(⟨pa,cost,B,pb⟩:End)])=X' at gB' hXl' hstep
    clear hg hb hsp hT hT0 T CS gA gB hXl X
    refine zfC endV 4 (env' := [(7,.ptr 7 0),(0,.dat false (.rp n.cells)),(1,.dat false (.slice ((idsR n.bridges).map zbe))),(5,.sl 950 nb),(19,.dat false (.slice (n.links.map zar))),(20,.dat true (.int .i64 (n.links.map zar).length)),(21,.dat true (.int .i64 k))]) (pre' := [(7,.cells false true ((zar ⟨A,pa,B,pb,cost,true⟩).map (.dat false)))]) B gB' rfl rfl rfl (fun T=>by(repeat' (first|exact trivial|rfl|exact zas _|exact⟨_,rfl,.inl rfl⟩|exact⟨_,rfl,.inr (.inl rfl)⟩|exact⟨_,rfl,.inr (.inr rfl)⟩|refine⟨_,_,rfl,rfl,?_⟩|exact⟨_,rfl,rfl⟩|exact⟨_,_,_,_,rfl,rfl,rfl⟩|exact⟨_,rfl⟩|exact⟨_,_,rfl⟩|apply And.intro))) (fun T=>by(repeat' (first|exact trivial|rfl|exact zas _|exact⟨_,rfl,.inl rfl⟩|exact⟨_,rfl,.inr (.inl rfl)⟩|exact⟨_,rfl,.inr (.inr rfl)⟩|refine⟨_,_,rfl,rfl,?_⟩|exact⟨_,rfl,rfl⟩|exact⟨_,_,_,_,rfl,rfl,rfl⟩|exact⟨_,rfl⟩|exact⟨_,_,rfl⟩|apply And.intro))) (fun T hT0 hT=>?_)
    have hg:=zmb (xs:=X') (d := .own 960 0 0 RB.length) (A:=B) (by omega)
    have hb:=zpY (xs:=X') (d := .own 960 0 0 RB.length) (A:=B) (by omega)
    have hsp:=zix (xs:=X') (d := .own 960 0 0 RB.length) (d' := .own 960 1 0 (RB++[(⟨pb,cost,A,pa⟩:End)]).length) (A:=B) (by omega)
    generalize (ctrD X').set B (.own 960 0 0 RB.length)=CS at hg hb hsp
    dsimp only[List.cons_append,List.nil_append]
    repeat' (first|refine zcY 960 (bx := .row 1 false true 4 ((RB++[(⟨pb,cost,A,pa⟩:End)]).map endV)) rfl ?_|refine qU ?_|((first|apply dX rfl|apply Da rfl rfl|apply Db rfl rfl qN);(focus ((try intro hg);first|exact zdE rfl rfl hl.b0 hl.b1|exact zaI (d := .own 960 0 0 RB.length) rfl rfl hg|exact zan (f:=endV) (us:=RB) (bs := [(⟨pb,cost,A,pa⟩:End)]) rfl rfl (.dat _ _) rfl rfl (.inr ⟨rfl,inferInstance⟩) rfl (by simp only[List.length_singleton];omega)|exact zbg rfl rfl rfl rfl rfl hb|exact qM));constructor)|refine qP ?_)
    intro _
    refine zaZ (zgZ endV 4 B (env' := [(0,.dat false (.rp n.cells)),(1,.dat false (.slice ((idsR n.bridges).map zbe))),(5,.sl 950 nb),(19,.dat false (.slice (n.links.map zar))),(20,.dat true (.int .i64 (n.links.map zar).length)),(21,.dat true (.int .i64 k))]) (pre' := []) (xs:=X') (r':=RB++[(⟨pb,cost,A,pa⟩:End)]) (by omega) rfl rfl rfl rfl hsp (fun k r h1 h2=>?_) kq kq) ?_
    ·simp (discharger:=decide) only[zdd]
     exact hT k r h1 h2
    show DW _ _ _ ⟨_,_,93⟩
    rw[hstep]
    repeat' (first|refine qU ?_|((first|apply dX rfl|apply Da rfl rfl|apply Db rfl rfl qN);(focus ((try intro hg);first|exact qM));constructor)|refine qP ?_)
    refine zaa (k+1) hlt (by omega) ?_
    rw[hst]
    refine zgn endV 4 rfl rfl ?_ (fun k r h=>?_) ?_ ?_
    ·exact zdI endV 4 rfl
    ·exact zcJ endV 4 rfl h
    ·(repeat' (first|exact trivial|rfl|exact zas _|exact⟨_,rfl,.inl rfl⟩|exact⟨_,rfl,.inr (.inl rfl)⟩|exact⟨_,rfl,.inr (.inr rfl)⟩|refine⟨_,_,rfl,rfl,?_⟩|exact⟨_,rfl,rfl⟩|exact⟨_,_,_,_,rfl,rfl,rfl⟩|exact⟨_,rfl⟩|exact⟨_,_,rfl⟩|apply And.intro))
    ·(repeat' (first|exact trivial|rfl|exact zas _|exact⟨_,rfl,.inl rfl⟩|exact⟨_,rfl,.inr (.inl rfl)⟩|exact⟨_,rfl,.inr (.inr rfl)⟩|refine⟨_,_,rfl,rfl,?_⟩|exact⟨_,rfl,rfl⟩|exact⟨_,_,_,_,rfl,rfl,rfl⟩|exact⟨_,rfl⟩|exact⟨_,_,rfl⟩|apply And.intro))
   ·rw[if_neg hr,List.append_nil]at hst
    rw[decide_eq_false hr]at hbe
    repeat' (first|(apply dt rfl;case h=>exact zaF _ (zo3 endV 4 (by decide) rfl))|refine qU ?_|((first|apply dX rfl|apply Da rfl rfl|apply Db rfl rfl qN);(focus ((try intro hg);first|exact zab (zam rfl rfl) (decide_eq_true (by omega:(k:Int)<((n.links.map zar).length:Int)))|exact zaf rfl rfl (by omega) hx|exact zaf (f:=zbe) rfl rfl hl.a0 hxa|exact zaf (f:=zbe) rfl rfl hl.b0 hxb|exact zac hbe rfl|exact qM));constructor)|refine qP ?_)
    refine zaa (k+1) hlt (by omega) ?_
    rw[hst]
    refine zgn endV 4 rfl rfl ?_ (fun k r h=>?_) ?_ ?_
    ·exact zdI endV 4 rfl
    ·simp (discharger:=decide) only[zdd]
     exact zcJ endV 4 rfl h
    ·(repeat' (first|exact trivial|rfl|exact zas _|exact⟨_,rfl,.inl rfl⟩|exact⟨_,rfl,.inr (.inl rfl)⟩|exact⟨_,rfl,.inr (.inr rfl)⟩|refine⟨_,_,rfl,rfl,?_⟩|exact⟨_,rfl,rfl⟩|exact⟨_,_,_,_,rfl,rfl,rfl⟩|exact⟨_,rfl⟩|exact⟨_,_,rfl⟩|apply And.intro))
    ·(repeat' (first|exact trivial|rfl|exact zas _|exact⟨_,rfl,.inl rfl⟩|exact⟨_,rfl,.inr (.inl rfl)⟩|exact⟨_,rfl,.inr (.inr rfl)⟩|refine⟨_,_,rfl,rfl,?_⟩|exact⟨_,rfl,rfl⟩|exact⟨_,_,_,_,rfl,rfl,rfl⟩|exact⟨_,rfl⟩|exact⟨_,_,rfl⟩|apply And.intro))
 ·have he:(n.links.take k).filter (zdQ n.bridges)=za3 n:=by rw[List.take_of_length_le (by omega)];with_unfolding_all rfl
  rw[he]
  have hXl:(famX nb (za3 n)).length=nb:=zdJ nb _
  have hXg:∀ i,i<nb→(famX nb (za3 n))[i]? = some (rawE (za3 n) i):=fun i h=>zej h
  generalize famX nb (za3 n)=X at hXl hXg
  repeat' (first|refine qU ?_|((first|apply dX rfl|apply Da rfl rfl|apply Db rfl rfl qN);(focus ((try intro hg);first|exact zab (zam rfl rfl) (decide_eq_false (by omega:¬(k:Int)<((n.links.map zar).length:Int)))|exact zbQ rfl|exact qM));constructor)|refine qP ?_)
  refine zag (fun j:Nat=>⟨[(5,.sl 950 nb),(83,.sl 950 nb),(84,.dat true (.int .i64 nb)),(85,.dat true (.int .i64 j))],famS endV 4 [] (srtX X j),93⟩)
   (fun j=>j≤nb) (fun j=>nb-j) 0 (Nat.zero_le _)
   (by
    show Wk _ ⟨_,famS endV 4 [] (srtX X 0),93⟩
    rw[zo7]
    exact zgn endV 4 rfl rfl (zdI endV 4 rfl) (fun k r h=>zcJ endV 4 rfl h) kq kq) (fun j hj=>?_)
  have hYl:(srtX X j).length=nb:=by rw[zq6];exact hXl
  by_cases hlj:j<nb
  ·have hr:(srtX X j)[j]? = some (rawE (za3 n) j):=zsT (hXg j hlj)
   have hnx:=zq7 (hXg j hlj)
   have hsj:=hs j hlj
   generalize srtX X j=Y at hr hnx hYl
   generalize rawE (za3 n) j=R at hr hnx hsj
   refine zfC endV 4 (env' := [(5,.sl 950 nb),(83,.sl 950 nb),(84,.dat true (.int .i64 nb)),(85,.dat true (.int .i64 j))]) (pre' := []) j hr rfl rfl rfl (fun T=>by(repeat' (first|exact trivial|rfl|exact zas _|exact⟨_,rfl,.inl rfl⟩|exact⟨_,rfl,.inr (.inl rfl)⟩|exact⟨_,rfl,.inr (.inr rfl)⟩|refine⟨_,_,rfl,rfl,?_⟩|exact⟨_,rfl,rfl⟩|exact⟨_,_,_,_,rfl,rfl,rfl⟩|exact⟨_,rfl⟩|exact⟨_,_,rfl⟩|apply And.intro))) (fun T=>by(repeat' (first|exact trivial|rfl|exact zas _|exact⟨_,rfl,.inl rfl⟩|exact⟨_,rfl,.inr (.inl rfl)⟩|exact⟨_,rfl,.inr (.inr rfl)⟩|refine⟨_,_,rfl,rfl,?_⟩|exact⟨_,rfl,rfl⟩|exact⟨_,_,_,_,rfl,rfl,rfl⟩|exact⟨_,rfl⟩|exact⟨_,_,rfl⟩|apply And.intro))) (fun T hT0 hT=>?_)
   have hg:=zmb (xs:=Y) (d := .own 960 0 0 R.length) (A:=j) (by omega)
   have hcs:(ctrD Y).set j (.own 960 0 0 R.length)=(ctrD Y).set j (.own 960 0 0 (zdR R).length):=by rw[zkt]
   generalize (ctrD Y).set j (.own 960 0 0 R.length)=CS at hg hcs
   dsimp only[List.nil_append]
   repeat' (first|refine qU ?_|((first|apply dX rfl|apply Da rfl rfl|apply Db rfl rfl qN);(focus ((try intro hg);first|exact zab (zam rfl rfl) (decide_eq_true (by omega:(j:Int)<(nb:Int)))|exact zdE rfl rfl (by omega) (by omega)|exact zaI (d := .own 960 0 0 R.length) rfl rfl hg|exact zo0 960 hsj rfl rfl|exact qM));constructor)|refine qP ?_)
   refine zaa (j+1) hlj (by omega) ?_
   rw[←hnx]
   refine zgZ endV 4 j (by omega) rfl rfl rfl rfl hcs (fun k r h1 h2=>?_) kq kq
   simp (discharger:=decide) only[zdd]
   exact hT k r h1 h2
  ·refine zo5 endV 4 5 rfl rfl hYl.symm (fun M=>?_)
   have hall:srtX X j=X.map zdR:=by rw[show j=X.length by omega];exact zq8 X
   rw[hall]
   repeat' (first|refine qU ?_|((first|apply dX rfl|apply Da rfl rfl|apply Db rfl rfl qN);(focus ((try intro hg);first|exact zab (zam rfl rfl) (decide_eq_false (by omega:¬(j:Int)<(nb:Int)))|exact qM));constructor)|refine qP ?_)
   refine ret1 rfl (.inl rfl) ?_
   rfl
end Go.Proofs.YtcdhlofhhcgohaaGreat
namespace Go.Proofs.YtcdhlofhhcgohaaGreat
open Go.RowKit
theorem zk6 (n:Net) (h:n.good):FnF Tryz.prog 55 [.rp n.cells,.slice ((idsR n.bridges).map zbe)] (.slice (((List.range n.bridges.length).map (zaL n)).map zdK)) :=
 znV n h.lk h.nl h.nb fun i _=>zjn _ (fun e he=>(zjc h he).1) (by
  have h1:=zjb (za3 n) i
  have h2:(za3 n).length≤n.links.length:=List.length_filter_le _ _
  have:=h.nl
  omega) (fun x hx y hy hp=>h.end_one hx hy hp)
attribute [local irreducible] SStep DW DWin DOps zaG zaE zaJ retQ zaN FnF FnG FnI Wk IntKind.wrap IntKind.andI IntKind.orI IntKind.xorI IntKind.andNotI IntKind.shlI IntKind.shrI Net.wrong Bridge.id Bridge.prio zb3 zdR zcj rawE rawP idsR zdQ zb9 zde zaL zah zaK mix
end Go.Proofs.YtcdhlofhhcgohaaGreat
