/- Contract: the document's Relay. -/
import Derived.Test.YtcdhlofhhcgohaaGreatwdBkR
import Derived.Test.YtcdhlofhhcgohaaGreatwdGtp
import Derived.Test.YtcdhlofhhcgohaaGreatwdPlI
namespace Go.Proofs.YtcdhlofhhcgohaaGreat
open Go.RowKit
theorem zjs {gs:List Gate} (hs:gs.Pairwise (fun a b=>a.port<b.port)) {n k:Nat} {g u:Gate} (h1:gs[n]? = some g) (h2:gs[k]? = some u):u.port=g.port↔k=n:=by
 obtain⟨a1,rfl⟩:=List.getElem?_eq_some_iff.1 h1
 obtain⟨a2,rfl⟩:=List.getElem?_eq_some_iff.1 h2
 constructor
 ·intro h
  rcases Nat.lt_trichotomy k n with hlt|he|hgt
  ·have:=List.pairwise_iff_getElem.1 hs k n a2 a1 hlt;omega
  ·exact he
  ·have:=List.pairwise_iff_getElem.1 hs n k a1 a2 hgt;omega
 ·rintro rfl;rfl
theorem zlZ {gs:List Gate} {port:Int} (h:∀ (j:Nat) (g:Gate),gs[j]? = some g→g.port≠port):zdi gs port=none:=by
 unfold zdi
 rw[List.find?_eq_none]
 intro g hg
 obtain⟨j,hj⟩:=List.getElem?_of_mem hg
 simpa using h j g hj
theorem zpC {gs:List Gate} (hs:gs.Pairwise (fun a b=>a.port<b.port)) {n:Nat} {g:Gate} (h1:gs[n]? = some g):zdi gs g.port=some g:=by
 unfold zdi
 cases hf:gs.find? (fun u=>decide (u.port=g.port))with
 | none =>
  rw[List.find?_eq_none]at hf
  have:=hf g (List.mem_of_getElem? h1)
  simp at this
 | some u =>
  have hp:=List.find?_some hf
  simp only[decide_eq_true_eq]at hp
  obtain⟨k,hk⟩:=List.getElem?_of_mem (List.mem_of_find?_eq_some hf)
  have:=(zjs hs h1 hk).1 hp
  subst this
  rw[h1]at hk
  exact hk.symm
theorem zhm {g:Gate} {f:Frame} {v:Int} (h:g.plain=v):zcA g f v=⟨f.dst,f.src,false,0,false,0,f.typ,f.data⟩:=by unfold zcA;rw[if_pos h]
theorem zkQ {g:Gate} {f:Frame} {v:Int} (h:¬g.plain=v) (ht:f.tagged=true):zcA g f v=⟨f.dst,f.src,true,f.prio,f.drop,v,f.typ,f.data⟩:=by unfold zcA;rw[if_neg h,ht];simp
theorem zkR {g:Gate} {f:Frame} {v:Int} (h:¬g.plain=v) (ht:f.tagged=false):zcA g f v=⟨f.dst,f.src,true,0,false,v,f.typ,f.data⟩:=by unfold zcA;rw[if_neg h,ht];simp
theorem quo16 {a:Int} (h:0≤a) (h2:a≤18446744073709551615):IntKind.u64.wrap (a.tdiv 16)=IntKind.u64.shrI a 4:=by
 have e:(2:Int) ^ (min (4:Int).toNat IntKind.u64.bits)=16:=by decide
 unfold IntKind.shrI
 rw[e,Int.fdiv_eq_ediv_of_nonneg _ (by decide),Int.tdiv_eq_ediv_of_nonneg h,wrap_in]
 simp only[InK];omega
theorem zs4 {g:Gate} {f:Frame} (hf:f.wrong=0):zcp g f=if f.tagged=true∧0<f.vid then f.vid else g.plain:=by
 have h3:f.tagged=true→0≤f.vid:=fun ht=>by
  unfold Frame.wrong at hf
  split at hf
  ·omega
  split at hf
  ·omega
  split at hf
  ·omega
  ·rename_i h3
   have:¬(f.vid<0∨4094<f.vid∨f.prio<0∨7<f.prio):=fun h4=>h3 ⟨ht,h4⟩
   omega
 unfold zcp
 by_cases ht:f.tagged=true
 ·have:=h3 ht
  by_cases h0:0<f.vid
  ·rw[if_pos ⟨ht,by omega⟩,if_pos ⟨ht,h0⟩]
  ·rw[if_neg (fun h=>h.2 (by omega)),if_neg (fun h=>h0 h.2)]
 ·rw[if_neg (fun h=>ht h.1),if_neg (fun h=>ht h.1)]
attribute [local irreducible] SStep DW DWin DOps zaG zaE zaJ retQ zaN FnF FnG Wk IntKind.wrap IntKind.andI IntKind.orI IntKind.xorI IntKind.andNotI IntKind.shlI IntKind.shrI Ent.cmp bsG zck zhU zaU zff zgb Gate.passes zcp zcA zdi
set_option maxHeartbeats 8000000 in
theorem znM (r:Region) (gs:List Gate) (l:List Ent) (port:Int) (f:Frame) (hrl:r.ways.length≤9223372036854775807) (hf:f.ok) :
  FnG Tryz.prog 71 [.dat false r.v,.dat false (.slice (gs.map zaM)),.dat false (.slice (l.map entV)),.dat false (.int .i64 port),.dat false f.v] []
   (.dat false (.tuple [.slice ((zaQ r gs l port f).1.map outV),.slice ((zaQ r gs l port f).2.1.map entV),.int .i64 (zaQ r gs l port f).2.2])) []:=by
 refine zbj Tryz.func71 rfl rfl rfl ?_
 simp only[envD]
 have hR:=zh7 r hrl
 have hG:FnF Tryz.prog 122 [.slice (gs.map zaM)] (.agg [.int .i64 (zcz gs).1,.int .i64 (zcz gs).2]):=zhk gs
 have hB:FnF Tryz.prog 29 [.slice (l.map entV)] (.agg [.int .i64 (zcc l).1,.int .i64 (zcc l).2]):=znE l
 have hF:=zio f hf
 by_cases h1:r.wrong=0
 case neg =>
  rw[show zaQ r gs l port f=([],[],r.wrong) by unfold zaQ;rw[if_pos h1]]
  repeat' (first|refine qU ?_|((first|apply dX rfl|apply Da rfl rfl|apply Db rfl rfl qN);(focus ((try intro hg);first|exact zac hR rfl|exact zac hG rfl|exact zac hB rfl|exact zac hF rfl|exact zab (za1 rfl rfl) (decide_eq_true h1)|exact qM));constructor)|refine qP ?_)
  exact gOld (.tmp rfl (.tmp rfl (.tmp rfl .nil))) zav rfl
 by_cases h2:(zcz gs).1=0
 case neg =>
  rw[show zaQ r gs l port f=([],[],(zcz gs).1) by unfold zaQ;rw[if_neg (fun h=>h h1),if_pos h2]]
  repeat' (first|refine qU ?_|((first|apply dX rfl|apply Da rfl rfl|apply Db rfl rfl qN);(focus ((try intro hg);first|exact zac hR rfl|exact zac hG rfl|exact zac hB rfl|exact zac hF rfl|exact zab (za1 rfl rfl) (decide_eq_false (fun h=>h h1))|exact zab (za1 rfl rfl) (decide_eq_true h2)|exact qM));constructor)|refine qP ?_)
  exact gOld (.tmp rfl (.tmp rfl (.tmp rfl .nil))) zav rfl
 by_cases h3:(zcc l).1=0
 case neg =>
  rw[show zaQ r gs l port f=([],[],(zcc l).1) by unfold zaQ;rw[if_neg (fun h=>h h1),if_neg (fun h=>h h2),if_pos h3]]
  repeat' (first|refine qU ?_|((first|apply dX rfl|apply Da rfl rfl|apply Db rfl rfl qN);(focus ((try intro hg);first|exact zac hR rfl|exact zac hG rfl|exact zac hB rfl|exact zac hF rfl|exact zab (za1 rfl rfl) (decide_eq_false (fun h=>h h1))|exact zab (za1 rfl rfl) (decide_eq_false (fun h=>h h2))|exact zab (za1 rfl rfl) (decide_eq_true h3)|exact qM));constructor)|refine qP ?_)
  exact gOld (.tmp rfl (.tmp rfl (.tmp rfl .nil))) zav rfl
 by_cases h4:f.wrong=0
 case neg =>
  rw[show zaQ r gs l port f=([],[],f.wrong) by unfold zaQ;rw[if_neg (fun h=>h h1),if_neg (fun h=>h h2),if_neg (fun h=>h h3),if_pos h4]]
  repeat' (first|refine qU ?_|((first|apply dX rfl|apply Da rfl rfl|apply Db rfl rfl qN);(focus ((try intro hg);first|exact zac hR rfl|exact zac hG rfl|exact zac hB rfl|exact zac hF rfl|exact zab (za1 rfl rfl) (decide_eq_false (fun h=>h h1))|exact zab (za1 rfl rfl) (decide_eq_false (fun h=>h h2))|exact zab (za1 rfl rfl) (decide_eq_false (fun h=>h h3))|exact zab (za1 rfl rfl) (decide_eq_true h4)|exact qM));constructor)|refine qP ?_)
  exact gOld (.tmp rfl (.tmp rfl (.tmp rfl .nil))) zav rfl
 rw[zea ⟨h1,h2,h3,h4⟩]
 have hgr:=zha h2
 have hbr:=right_of h3
 have hrr:=zf2 h1
 have hl30:=hbr.n
 have hgn:=hgr.n
 have hml:(gs.map zaM).length=gs.length:=by simp
 have hfd:=zit h4
 repeat' (first|refine qU ?_|((first|apply dX rfl|apply Da rfl rfl|apply Db rfl rfl qN);(focus ((try intro hg);first|exact zac hR rfl|exact zac hG rfl|exact zac hB rfl|exact zac hF rfl|exact zab (za1 rfl rfl) (decide_eq_false (fun h=>h h1))|exact zab (za1 rfl rfl) (decide_eq_false (fun h=>h h2))|exact zab (za1 rfl rfl) (decide_eq_false (fun h=>h h3))|exact zab (za1 rfl rfl) (decide_eq_false (fun h=>h h4))|exact qM));constructor)|refine qP ?_)
 refine zag (fun q:Nat×Int=>⟨[(1,.dat false (.slice (gs.map zaM))),(2,.dat false (.slice (l.map entV))),(3,.dat false (.int .i64 port)),(5,.ptr 5 0),(9,.ptr 9 0),(17,.dat true (.int .i64 q.2)),(51,.dat false (.slice (gs.map zaM))),(52,.dat true (.int .i64 (gs.map zaM).length)),(53,.dat true (.int .i64 q.1))],
   [(5,.cells false true (r.cells.map (.dat false))),(9,.cells false true (f.cells.map (.dat false)))],173⟩)
  (fun q=>q.1≤gs.length∧((q.2 = -1∧∀ j g,j<q.1→gs[j]? = some g→g.port≠port)∨∃ n g,q.2=((n:Nat):Int)∧gs[n]? = some g∧g.port=port)) (fun q=>gs.length-q.1) (0, -1) ⟨Nat.zero_le _,.inl ⟨rfl,fun j g h=>absurd h (Nat.not_lt_zero _)⟩⟩
  (Wk_g some rfl rfl kq) (fun q hq=>?_)
 obtain⟨k,a⟩:=q
 obtain⟨hk,ha⟩:=hq
 simp only at hk ha
 dsimp only
 by_cases hlt:k<gs.length
 ·have hx1:gs[k]? = some gs[k]:=by simp[hlt]
  have hx2:gs[(k:Int).toNat]? = some gs[k]:=by simp[hlt]
  generalize gs[k]=u at hx1 hx2
  repeat' (first|refine qU ?_|refine zat rfl (fun hc=>?_) (fun hc=>?_)|((first|apply dX rfl|apply Da rfl rfl|apply Db rfl rfl qN);(focus ((try intro hg);first|exact zab (zam rfl rfl) (decide_eq_true (by omega:(k:Int)<((gs.map zaM).length:Int)))|exact zaf rfl rfl (by omega) hx2|exact qM));constructor)|refine qP ?_)
  ·refine zaa (k+1,(k:Int)) ⟨hlt,.inr ⟨k,u,rfl,hx1,of_decide_eq_true hc⟩⟩ (by simp only;omega) (Wk_g some rfl rfl kq)
  ·refine zaa (k+1,a) ⟨hlt,?_⟩ (by simp only;omega) (Wk_g some rfl rfl kq)
   rcases ha with⟨ha,hn⟩|ha
   ·refine .inl ⟨ha,fun j g hj hg=>?_⟩
    rcases Nat.lt_succ_iff_lt_or_eq.1 hj with hj|rfl
    ·exact hn j g hj hg
    ·rw[hx1]at hg
     injection hg with hg
     subst hg
     exact of_decide_eq_false hc
   ·exact .inr ha
 rcases ha with⟨rfl,hn⟩|⟨n,g,rfl,i2,hgp⟩
 ·rw[zeT (zlZ (fun j g hj=>hn j g (by have:=(List.getElem?_eq_some_iff.1 hj).1;omega) hj))]
  repeat' (first|refine qU ?_|((first|apply dX rfl|apply Da rfl rfl|apply Db rfl rfl qN);(focus ((try intro hg);first|exact zab (zam rfl rfl) (decide_eq_false (by omega:¬(k:Int)<((gs.map zaM).length:Int)))|exact qM));constructor)|refine qP ?_)
  exact gOld (.tmp rfl (.tmp rfl (.tmp rfl .nil))) zav rfl
 have hga:zdi gs port=some g:=by rw[←hgp];exact zpC hgr.s i2
 rw[zeU hga]
 have hgm:g∈gs:=List.mem_of_getElem? i2
 have hg:=hgr.g g hgm
 have hwi:=zpB hg h4
 have hx:gs[((n:Nat):Int).toNat]? = some g:=by rw[Int.toNat_natCast];exact i2
 have hbl:zpu g r f=(decide (zcp g f=0) || !g.passes r (zcp g f) || zdx f.dst):=rfl
 have hwp:=zs4 (g:=g) h4
 have hq16:=quo16 hf.d0 hf.d1
 unfold zhb
 have hrb:zdx f.dst=decide (IntKind.u64.shrI f.dst 4=103282638848):=rfl
 rw[hrb]at hbl
 have cp:=zeX g r (zcp g f) hrr
 generalize zcp g f=v at cp hwi hbl hwp ⊢
 cases hcb:(f.tagged && decide (0<f.vid))
 ·rw [if_neg (fun h=>by rw[h.1,decide_eq_true h.2]at hcb;cases hcb)]at hwp
  subst hwp
  have hlr:=(zeS (v:=g.plain) (a:=f.src) (p:=port) hbr).1
  have c5:=ziu l g.plain f.src port ⟨hf.s0,hf.s1⟩ (by omega)
  rw[zkE hbr]at c5
  have c6:=zkF (zaU l g.plain f.src port) g.plain f.dst
  generalize zaU l g.plain f.src port=m at c5 c6 hlr ⊢
  generalize (zck m g.plain f.dst).1=at' at c6 ⊢
  generalize (zck m g.plain f.dst).2=known at c6 ⊢
  repeat' (first|(apply zcs rfl;case hb=>exact hcb)|refine qU ?_|refine zat rfl (fun hb=>?_) (fun hb=>?_)|((first|apply dX rfl|apply Da rfl rfl|apply Db rfl rfl qN);(focus ((try intro hg);first|exact zab (zam rfl rfl) (decide_eq_false (by omega:¬(k:Int)<((gs.map zaM).length:Int)))|exact zab (zam rfl rfl) (decide_eq_false (by omega:¬((n:Nat):Int)<0))|exact zaf rfl rfl (by omega) hx|exact zac cp rfl|exact zaw (ziG rfl rfl (by decide)) hq16|exact ze4 c5 rfl|exact zac c6 rfl|exact qM));constructor)|refine qP ?_)
  ·rw[if_pos (hbl.trans hb)]
   exact gOld (.tmp rfl (.tmp rfl (.tmp rfl .nil))) zav rfl
  rw[if_neg (fun h=>by rw[hbl.symm.trans h]at hb;cases hb)]
  dsimp only
  refine zag (fun q:Nat×List OutF=>⟨[(1,.dat false (.slice (gs.map zaM))),(2,.dat false (.slice (m.map entV))),(5,.ptr 5 0),(9,.ptr 9 0),(17,.dat true (.int .i64 n)),(20,.dat false (.int .i64 g.plain)),(21,.dat true (.int .i64 at')),(22,.dat true (.bool known)),(23,.own 169 0 0 q.2.length),(113,.dat false (.slice (gs.map zaM))),(114,.dat true (.int .i64 (gs.map zaM).length)),(115,.dat true (.int .i64 q.1))],
    [(5,.cells false true (r.cells.map (.dat false))),(9,.cells false true (f.cells.map (.dat false))),(169,.row 0 false false 9 (q.2.map outV))],173⟩)
   (fun q=>q.1≤gs.length∧q.2=zgb r (gs.take q.1) g.plain port at' known f) (fun q=>gs.length-q.1) (0,[]) ⟨Nat.zero_le _,by with_unfolding_all rfl⟩
   (Wk_g (fun g=>if g=169 then none else some g) rfl rfl kq) (fun q hq=>?_)
  obtain⟨k,outs⟩:=q
  obtain⟨hk,ho⟩:=hq
  simp only at hk ho
  dsimp only
  by_cases hlt:k<gs.length
  ·have hx1:gs[k]? = some gs[k]:=by simp[hlt]
   have hx2:gs[(k:Int).toNat]? = some gs[k]:=by simp[hlt]
   have hnx:=zfK (r:=r) (v:=g.plain) (port:=port) (at':=at') (known:=known) (f:=f) hx1
   have hug:=hgr.g gs[k] (List.mem_of_getElem? hx1)
   have hpo:=zjs hgr.s i2 hx1
   rw[hgp]at hpo
   generalize gs[k]=u at hx1 hx2 hnx hug hpo
   have cp2:=zeX u r g.plain hrr
   have hpi:decide ((k:Int)=(n:Int))=decide (u.port=port):=by
    rw[Bool.eq_iff_iff,decide_eq_true_iff,decide_eq_true_iff,hpo];omega
   have hsk:znF r g.plain port at' known u=(decide (u.port=port) || (known && decide (u.port≠at')) || !u.passes r g.plain):=rfl
   have hol:outs.length≤31:=by
    rw[ho]
    have:=zfi r (gs.take k) g.plain port at' known f
    have:=List.length_take_le k gs
    omega
   by_cases hpl:u.plain=g.plain
   ·repeat' (first|refine qU ?_|refine zat rfl (fun hc=>?_) (fun hc=>?_)|((first|apply dX rfl|apply Da rfl rfl|apply Db rfl rfl qN);(focus ((try intro hg);first|exact zab (zam rfl rfl) (decide_eq_true (by omega:(k:Int)<((gs.map zaM).length:Int)))|exact zaf rfl rfl (by omega) hx2|exact zac cp2 rfl|exact zab (zdp rfl rfl) hpi|exact zab (za1 rfl rfl) (decide_eq_false (fun h=>h hpl))|exact zan (f:=outV) (us:=outs) (bs := [(u.port,⟨f.dst,f.src,false,0,false,0,f.typ,f.data⟩)]) rfl rfl (.dat _ _) rfl rfl (.inl rfl) rfl (by simp only[List.length_cons,List.length_nil];omega)|exact zan (f:=outV) (us:=outs) (bs := [(u.port,⟨f.dst,f.src,true,f.prio,f.drop,g.plain,f.typ,f.data⟩)]) rfl rfl (.dat _ _) rfl rfl (.inl rfl) rfl (by simp only[List.length_cons,List.length_nil];omega)|exact zan (f:=outV) (us:=outs) (bs := [(u.port,⟨f.dst,f.src,true,0,false,g.plain,f.typ,f.data⟩)]) rfl rfl (.dat _ _) rfl rfl (.inl rfl) rfl (by simp only[List.length_cons,List.length_nil];omega)|exact zan (f:=outV) (us:=outs) (bs := [(u.port,⟨f.dst,f.src,true,f.prio,f.drop,f.vid,f.typ,f.data⟩)]) rfl rfl (.dat _ _) rfl rfl (.inl rfl) rfl (by simp only[List.length_cons,List.length_nil];omega)|exact zan (f:=outV) (us:=outs) (bs := [(u.port,⟨f.dst,f.src,true,0,false,f.vid,f.typ,f.data⟩)]) rfl rfl (.dat _ _) rfl rfl (.inl rfl) rfl (by simp only[List.length_cons,List.length_nil];omega)|exact qM));constructor)|refine qP ?_)
    ·refine zaa (k+1,outs) ⟨hlt,?_⟩ (by simp only;omega) (Wk_g some rfl rfl kq)
     simp only
     rw[hnx,if_pos (hsk.trans hc),List.append_nil,ho]
    ·refine zaa (k+1,outs++[(u.port,⟨f.dst,f.src,false,0,false,0,f.typ,f.data⟩)]) ⟨hlt,?_⟩ (by simp only;omega) (Wk_g some rfl rfl kq)
     simp only
     rw[hnx,if_neg (fun h=>by rw[hsk.symm.trans h]at hc;cases hc),zhm hpl,ho]
   ·repeat' (first|refine qU ?_|refine zat rfl (fun hc=>?_) (fun hc=>?_)|((first|apply dX rfl|apply Da rfl rfl|apply Db rfl rfl qN);(focus ((try intro hg);first|exact zab (zam rfl rfl) (decide_eq_true (by omega:(k:Int)<((gs.map zaM).length:Int)))|exact zaf rfl rfl (by omega) hx2|exact zac cp2 rfl|exact zab (zdp rfl rfl) hpi|exact zab (za1 rfl rfl) (decide_eq_true hpl)|exact zan (f:=outV) (us:=outs) (bs := [(u.port,⟨f.dst,f.src,false,0,false,0,f.typ,f.data⟩)]) rfl rfl (.dat _ _) rfl rfl (.inl rfl) rfl (by simp only[List.length_cons,List.length_nil];omega)|exact zan (f:=outV) (us:=outs) (bs := [(u.port,⟨f.dst,f.src,true,f.prio,f.drop,g.plain,f.typ,f.data⟩)]) rfl rfl (.dat _ _) rfl rfl (.inl rfl) rfl (by simp only[List.length_cons,List.length_nil];omega)|exact zan (f:=outV) (us:=outs) (bs := [(u.port,⟨f.dst,f.src,true,0,false,g.plain,f.typ,f.data⟩)]) rfl rfl (.dat _ _) rfl rfl (.inl rfl) rfl (by simp only[List.length_cons,List.length_nil];omega)|exact zan (f:=outV) (us:=outs) (bs := [(u.port,⟨f.dst,f.src,true,f.prio,f.drop,f.vid,f.typ,f.data⟩)]) rfl rfl (.dat _ _) rfl rfl (.inl rfl) rfl (by simp only[List.length_cons,List.length_nil];omega)|exact zan (f:=outV) (us:=outs) (bs := [(u.port,⟨f.dst,f.src,true,0,false,f.vid,f.typ,f.data⟩)]) rfl rfl (.dat _ _) rfl rfl (.inl rfl) rfl (by simp only[List.length_cons,List.length_nil];omega)|exact qM));constructor)|refine qP ?_)
    ·refine zaa (k+1,outs) ⟨hlt,?_⟩ (by simp only;omega) (Wk_g some rfl rfl kq)
     simp only
     rw[hnx,if_pos (hsk.trans hc),List.append_nil,ho]
    ·rename_i hc1
     refine zaa (k+1,outs++[(u.port,⟨f.dst,f.src,true,f.prio,f.drop,g.plain,f.typ,f.data⟩)]) ⟨hlt,?_⟩ (by simp only;omega) (Wk_g some rfl rfl kq)
     simp only
     rw[hnx,if_neg (fun h=>by rw[hsk.symm.trans h]at hc1;cases hc1),zkQ hpl hc,ho]
    ·rename_i hc1
     refine zaa (k+1,outs++[(u.port,⟨f.dst,f.src,true,0,false,g.plain,f.typ,f.data⟩)]) ⟨hlt,?_⟩ (by simp only;omega) (Wk_g some rfl rfl kq)
     simp only
     rw[hnx,if_neg (fun h=>by rw[hsk.symm.trans h]at hc1;cases hc1),zkR hpl hc,ho]
  ·rw[List.take_of_length_le (by omega)]at ho
   repeat' (first|(refine zaR 10 rfl rfl (by simp) ?_;refine zgB ?_)|refine qU ?_|((first|apply dX rfl|apply Da rfl rfl|apply Db rfl rfl qN);(focus ((try intro hg);first|exact zab (zam rfl rfl) (decide_eq_false (by omega:¬(k:Int)<((gs.map zaM).length:Int)))|exact qM));constructor)|refine qP ?_)
   rw[←ho]
   exact gOld (.tmp rfl (.tmp rfl (.tmp rfl .nil))) zav rfl
 ·rw [if_pos (by simpa using hcb)]at hwp
  subst hwp
  have hlr:=(zeS (v:=f.vid) (a:=f.src) (p:=port) hbr).1
  have c5:=ziu l f.vid f.src port ⟨hf.s0,hf.s1⟩ (by omega)
  rw[zkE hbr]at c5
  have c6:=zkF (zaU l f.vid f.src port) f.vid f.dst
  generalize zaU l f.vid f.src port=m at c5 c6 hlr ⊢
  generalize (zck m f.vid f.dst).1=at' at c6 ⊢
  generalize (zck m f.vid f.dst).2=known at c6 ⊢
  repeat' (first|(apply zfr rfl;case hb=>exact hcb)|refine qU ?_|refine zat rfl (fun hb=>?_) (fun hb=>?_)|((first|apply dX rfl|apply Da rfl rfl|apply Db rfl rfl qN);(focus ((try intro hg);first|exact zab (zam rfl rfl) (decide_eq_false (by omega:¬(k:Int)<((gs.map zaM).length:Int)))|exact zab (zam rfl rfl) (decide_eq_false (by omega:¬((n:Nat):Int)<0))|exact zaf rfl rfl (by omega) hx|exact zac cp rfl|exact zaw (ziG rfl rfl (by decide)) hq16|exact ze4 c5 rfl|exact zac c6 rfl|exact qM));constructor)|refine qP ?_)
  ·rw[if_pos (hbl.trans hb)]
   exact gOld (.tmp rfl (.tmp rfl (.tmp rfl .nil))) zav rfl
  rw[if_neg (fun h=>by rw[hbl.symm.trans h]at hb;cases hb)]
  dsimp only
  refine zag (fun q:Nat×List OutF=>⟨[(1,.dat false (.slice (gs.map zaM))),(2,.dat false (.slice (m.map entV))),(5,.ptr 5 0),(9,.ptr 9 0),(17,.dat true (.int .i64 n)),(20,.dat false (.int .i64 f.vid)),(21,.dat true (.int .i64 at')),(22,.dat true (.bool known)),(23,.own 169 0 0 q.2.length),(113,.dat false (.slice (gs.map zaM))),(114,.dat true (.int .i64 (gs.map zaM).length)),(115,.dat true (.int .i64 q.1))],
    [(5,.cells false true (r.cells.map (.dat false))),(9,.cells false true (f.cells.map (.dat false))),(169,.row 0 false false 9 (q.2.map outV))],173⟩)
   (fun q=>q.1≤gs.length∧q.2=zgb r (gs.take q.1) f.vid port at' known f) (fun q=>gs.length-q.1) (0,[]) ⟨Nat.zero_le _,by with_unfolding_all rfl⟩
   (Wk_g (fun g=>if g=169 then none else some g) rfl rfl kq) (fun q hq=>?_)
  obtain⟨k,outs⟩:=q
  obtain⟨hk,ho⟩:=hq
  simp only at hk ho
  dsimp only
  by_cases hlt:k<gs.length
  ·have hx1:gs[k]? = some gs[k]:=by simp[hlt]
   have hx2:gs[(k:Int).toNat]? = some gs[k]:=by simp[hlt]
   have hnx:=zfK (r:=r) (v:=f.vid) (port:=port) (at':=at') (known:=known) (f:=f) hx1
   have hug:=hgr.g gs[k] (List.mem_of_getElem? hx1)
   have hpo:=zjs hgr.s i2 hx1
   rw[hgp]at hpo
   generalize gs[k]=u at hx1 hx2 hnx hug hpo
   have cp2:=zeX u r f.vid hrr
   have hpi:decide ((k:Int)=(n:Int))=decide (u.port=port):=by
    rw[Bool.eq_iff_iff,decide_eq_true_iff,decide_eq_true_iff,hpo];omega
   have hsk:znF r f.vid port at' known u=(decide (u.port=port) || (known && decide (u.port≠at')) || !u.passes r f.vid):=rfl
   have hol:outs.length≤31:=by
    rw[ho]
    have:=zfi r (gs.take k) f.vid port at' known f
    have:=List.length_take_le k gs
    omega
   by_cases hpl:u.plain=f.vid
   ·repeat' (first|refine qU ?_|refine zat rfl (fun hc=>?_) (fun hc=>?_)|((first|apply dX rfl|apply Da rfl rfl|apply Db rfl rfl qN);(focus ((try intro hg);first|exact zab (zam rfl rfl) (decide_eq_true (by omega:(k:Int)<((gs.map zaM).length:Int)))|exact zaf rfl rfl (by omega) hx2|exact zac cp2 rfl|exact zab (zdp rfl rfl) hpi|exact zab (za1 rfl rfl) (decide_eq_false (fun h=>h hpl))|exact zan (f:=outV) (us:=outs) (bs := [(u.port,⟨f.dst,f.src,false,0,false,0,f.typ,f.data⟩)]) rfl rfl (.dat _ _) rfl rfl (.inl rfl) rfl (by simp only[List.length_cons,List.length_nil];omega)|exact zan (f:=outV) (us:=outs) (bs := [(u.port,⟨f.dst,f.src,true,f.prio,f.drop,g.plain,f.typ,f.data⟩)]) rfl rfl (.dat _ _) rfl rfl (.inl rfl) rfl (by simp only[List.length_cons,List.length_nil];omega)|exact zan (f:=outV) (us:=outs) (bs := [(u.port,⟨f.dst,f.src,true,0,false,g.plain,f.typ,f.data⟩)]) rfl rfl (.dat _ _) rfl rfl (.inl rfl) rfl (by simp only[List.length_cons,List.length_nil];omega)|exact zan (f:=outV) (us:=outs) (bs := [(u.port,⟨f.dst,f.src,true,f.prio,f.drop,f.vid,f.typ,f.data⟩)]) rfl rfl (.dat _ _) rfl rfl (.inl rfl) rfl (by simp only[List.length_cons,List.length_nil];omega)|exact zan (f:=outV) (us:=outs) (bs := [(u.port,⟨f.dst,f.src,true,0,false,f.vid,f.typ,f.data⟩)]) rfl rfl (.dat _ _) rfl rfl (.inl rfl) rfl (by simp only[List.length_cons,List.length_nil];omega)|exact qM));constructor)|refine qP ?_)
    ·refine zaa (k+1,outs) ⟨hlt,?_⟩ (by simp only;omega) (Wk_g some rfl rfl kq)
     simp only
     rw[hnx,if_pos (hsk.trans hc),List.append_nil,ho]
    ·refine zaa (k+1,outs++[(u.port,⟨f.dst,f.src,false,0,false,0,f.typ,f.data⟩)]) ⟨hlt,?_⟩ (by simp only;omega) (Wk_g some rfl rfl kq)
     simp only
     rw[hnx,if_neg (fun h=>by rw[hsk.symm.trans h]at hc;cases hc),zhm hpl,ho]
   ·repeat' (first|refine qU ?_|refine zat rfl (fun hc=>?_) (fun hc=>?_)|((first|apply dX rfl|apply Da rfl rfl|apply Db rfl rfl qN);(focus ((try intro hg);first|exact zab (zam rfl rfl) (decide_eq_true (by omega:(k:Int)<((gs.map zaM).length:Int)))|exact zaf rfl rfl (by omega) hx2|exact zac cp2 rfl|exact zab (zdp rfl rfl) hpi|exact zab (za1 rfl rfl) (decide_eq_true hpl)|exact zan (f:=outV) (us:=outs) (bs := [(u.port,⟨f.dst,f.src,false,0,false,0,f.typ,f.data⟩)]) rfl rfl (.dat _ _) rfl rfl (.inl rfl) rfl (by simp only[List.length_cons,List.length_nil];omega)|exact zan (f:=outV) (us:=outs) (bs := [(u.port,⟨f.dst,f.src,true,f.prio,f.drop,g.plain,f.typ,f.data⟩)]) rfl rfl (.dat _ _) rfl rfl (.inl rfl) rfl (by simp only[List.length_cons,List.length_nil];omega)|exact zan (f:=outV) (us:=outs) (bs := [(u.port,⟨f.dst,f.src,true,0,false,g.plain,f.typ,f.data⟩)]) rfl rfl (.dat _ _) rfl rfl (.inl rfl) rfl (by simp only[List.length_cons,List.length_nil];omega)|exact zan (f:=outV) (us:=outs) (bs := [(u.port,⟨f.dst,f.src,true,f.prio,f.drop,f.vid,f.typ,f.data⟩)]) rfl rfl (.dat _ _) rfl rfl (.inl rfl) rfl (by simp only[List.length_cons,List.length_nil];omega)|exact zan (f:=outV) (us:=outs) (bs := [(u.port,⟨f.dst,f.src,true,0,false,f.vid,f.typ,f.data⟩)]) rfl rfl (.dat _ _) rfl rfl (.inl rfl) rfl (by simp only[List.length_cons,List.length_nil];omega)|exact qM));constructor)|refine qP ?_)
    ·refine zaa (k+1,outs) ⟨hlt,?_⟩ (by simp only;omega) (Wk_g some rfl rfl kq)
     simp only
     rw[hnx,if_pos (hsk.trans hc),List.append_nil,ho]
    ·rename_i hc1
     refine zaa (k+1,outs++[(u.port,⟨f.dst,f.src,true,f.prio,f.drop,f.vid,f.typ,f.data⟩)]) ⟨hlt,?_⟩ (by simp only;omega) (Wk_g some rfl rfl kq)
     simp only
     rw[hnx,if_neg (fun h=>by rw[hsk.symm.trans h]at hc1;cases hc1),zkQ hpl hc,ho]
    ·rename_i hc1
     refine zaa (k+1,outs++[(u.port,⟨f.dst,f.src,true,0,false,f.vid,f.typ,f.data⟩)]) ⟨hlt,?_⟩ (by simp only;omega) (Wk_g some rfl rfl kq)
     simp only
     rw[hnx,if_neg (fun h=>by rw[hsk.symm.trans h]at hc1;cases hc1),zkR hpl hc,ho]
  ·rw[List.take_of_length_le (by omega)]at ho
   repeat' (first|(refine zaR 10 rfl rfl (by simp) ?_;refine zgB ?_)|refine qU ?_|((first|apply dX rfl|apply Da rfl rfl|apply Db rfl rfl qN);(focus ((try intro hg);first|exact zab (zam rfl rfl) (decide_eq_false (by omega:¬(k:Int)<((gs.map zaM).length:Int)))|exact qM));constructor)|refine qP ?_)
   rw[←ho]
   exact gOld (.tmp rfl (.tmp rfl (.tmp rfl .nil))) zav rfl
end Go.Proofs.YtcdhlofhhcgohaaGreat
