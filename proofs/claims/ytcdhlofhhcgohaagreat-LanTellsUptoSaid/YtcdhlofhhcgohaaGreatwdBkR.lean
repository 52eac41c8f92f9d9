/- Contract: the document's Learn. -/
import Derived.Test.YtcdhlofhhcgohaaGreatwdBkr
import Derived.Test.YtcdhlofhhcgohaaGreatwdGtp
namespace Go.Proofs.YtcdhlofhhcgohaaGreat
open Go.RowKit
theorem zfK {r:Region} {gs:List Gate} {v port at':Int} {known:Bool} {f:Frame} {k:Nat} {g:Gate} (h:gs[k]? = some g) :
  zgb r (gs.take (k+1)) v port at' known f=zgb r (gs.take k) v port at' known f++if znF r v port at' known g then []else [(g.port,zcA g f v)]:=by
 unfold zgb
 rw[List.take_add_one,h,List.filter_append,List.map_append]
 congr 1
 cases hs:znF r v port at' known g<;>simp[hs]
theorem zfi (r:Region) (gs:List Gate) (v port at':Int) (known:Bool) (f:Frame):(zgb r gs v port at' known f).length≤gs.length:=by
 unfold zgb;rw[List.length_map];exact List.length_filter_le _ _
theorem zpB {g:Gate} {f:Frame} (hg:g.right) (hf:f.wrong=0):0≤zcp g f∧zcp g f≤4094:=by
 have hb:=hg.b
 unfold Gate.bad at hb
 unfold zcp
 split
 ·rename_i h
  unfold Frame.wrong at hf
  split at hf
  ·omega
  split at hf
  ·omega
  split at hf
  ·omega
  ·rename_i h3
   have:¬(f.vid<0∨4094<f.vid∨f.prio<0∨7<f.prio):=fun h4=>h3 ⟨h.1,h4⟩
   omega
 ·omega
theorem zit {f:Frame} (hf:f.wrong=0):f.data.length≤1500:=by
 unfold Frame.wrong at hf
 repeat' split at hf
 all_goals omega
theorem zf2 {r:Region} (h:r.wrong=0):r.right:=Region.right_of h
attribute [local irreducible] SStep DW DWin DOps zaG zaE zaJ retQ zaN FnF FnG Wk IntKind.wrap IntKind.andI IntKind.orI IntKind.xorI IntKind.andNotI IntKind.shlI IntKind.shrI Ent.cmp bsG zck zhU zaU zgb Gate.passes zcp zcA zdx
set_option maxHeartbeats 1000000 in
theorem zhl (l:List Gate) (F:FuncId) (caps:List V) (p:Gate→Bool) (hp:∀ e,FnF Tryz.prog F ([.agg (zaM e)]++caps) (.bool (p e))):FnF Tryz.prog 113 [.slice (l.map zaM),.fn F caps] (.int .i64 (idxP p l 0)):=by
 refine zal Tryz.func113 rfl rfl rfl ?_
 simp only[zap]
 refine zbY 0 rfl (fun hlen=>?_)
 have hml:(l.map zaM).length=l.length:=by simp
 repeat' (first|refine qU ?_|((first|apply dX rfl|apply Da rfl rfl|apply Db rfl rfl qN);(focus ((try intro hg);first|exact qM));constructor)|refine qP ?_)
 refine zag (fun k:Nat=>⟨[(0,.dat false (.slice (l.map zaM))),(1,.dat false (.fn F caps)),(7,.dat true (.int .i64 (l.map zaM).length)),(8,.dat true (.int .i64 k))],[],19⟩)
  (fun k=>k≤l.length∧idxP p l 0=idxP p (l.drop k) k) (fun k=>l.length-k) 0 ⟨Nat.zero_le _,rfl⟩
  (Wk_g some rfl rfl kq) (fun k hR=>?_)
 obtain⟨hk,hw⟩:=hR
 by_cases hlt:k<l.length
 ·have hx:l[(k:Int).toNat]? = some l[k]:=by simp[hlt]
  have hn:l.drop k=l[k]::l.drop (k+1):=List.drop_eq_getElem_cons hlt
  generalize l[k]=x at hx hn
  rw[hn,idxP]at hw
  repeat' (first|refine qU ?_|refine zat rfl (fun hb=>?_) (fun hb=>?_)|((first|apply dX rfl|apply Da rfl rfl|apply Db rfl rfl qN);(focus ((try intro hg);first|exact zab (zam rfl rfl) (decide_eq_true (by omega:(k:Int)<((l.map zaM).length:Int)))|exact zaf rfl rfl (by omega) hx|exact zaq rfl rfl (hp x)|exact qM));constructor)|refine qP ?_)
  ·rw[hw,if_pos hb]
   exact ret1 rfl (.inl rfl) rfl
  ·exact zaa (k+1) ⟨hlt,by rw[hw,if_neg (by rw[hb];simp)]⟩ (by omega) (Wk_g some rfl rfl kq)
 ·repeat' (first|refine qU ?_|((first|apply dX rfl|apply Da rfl rfl|apply Db rfl rfl qN);(focus ((try intro hg);first|exact zab (zam rfl rfl) (decide_eq_false (by omega:¬(k:Int)<((l.map zaM).length:Int)))|exact qM));constructor)|refine qP ?_)
  rw[hw,List.drop_eq_nil_of_le (by omega)]
  exact ret1 rfl (.inl rfl) rfl
theorem znL (port:Int) (g:Gate):FnF Tryz.prog 114 [.agg (zaM g),.rp [.int .i64 port]] (.bool (decide (g.port=port))):=by
 refine zal Tryz.func114 rfl rfl rfl ?_
 simp only[zap]
 repeat' (first|refine qU ?_|((first|apply dX rfl|apply Da rfl rfl|apply Db rfl rfl qN);(focus ((try intro hg);first|exact qM));constructor)|refine qP ?_)
 exact ret1 rfl (.inl rfl) rfl
set_option maxHeartbeats 8000000 in
theorem zlY (r:Region) (gs:List Gate) (l:List Ent) (port:Int) (f:Frame) (hrl:r.ways.length≤9223372036854775807) (hf:f.ok) :
  FnF Tryz.prog 66 [r.v,.slice (gs.map zaM),.slice (l.map entV),.int .i64 port,f.v]
   (.tuple [.slice ((zaQ r gs l port f).1.map outV),.slice ((zaQ r gs l port f).2.1.map entV),.int .i64 (zaQ r gs l port f).2.2]):=by
 refine zal Tryz.func66 rfl rfl rfl ?_
 simp only[zap]
 have hR:=zfV r hrl
 have hG:FnF Tryz.prog 111 [.slice (gs.map zaM)] (.agg [.int .i64 (zcz gs).1,.int .i64 (zcz gs).2]):=zlW gs
 have hB:FnF Tryz.prog 112 [.slice (l.map entV)] (.agg [.int .i64 (zcc l).1,.int .i64 (zcc l).2]):=zny l
 have hF:=zg7 f hf
 by_cases h1:r.wrong=0
 case neg =>
  rw[show zaQ r gs l port f=([],[],r.wrong) by unfold zaQ;rw[if_pos h1]]
  repeat' (first|refine qU ?_|((first|apply dX rfl|apply Da rfl rfl|apply Db rfl rfl qN);(focus ((try intro hg);first|exact zac hR rfl|exact zac hG rfl|exact zac hB rfl|exact zac hF rfl|exact zab (za1 rfl rfl) (decide_eq_true h1)|exact qM));constructor)|refine qP ?_)
  exact retN (.tmp rfl (.inl rfl) (.tmp rfl (.inl rfl) (.tmp rfl (.inl rfl) .nil))) rfl
 by_cases h2:(zcz gs).1=0
 case neg =>
  rw[show zaQ r gs l port f=([],[],(zcz gs).1) by unfold zaQ;rw[if_neg (fun h=>h h1),if_pos h2]]
  repeat' (first|refine qU ?_|((first|apply dX rfl|apply Da rfl rfl|apply Db rfl rfl qN);(focus ((try intro hg);first|exact zac hR rfl|exact zac hG rfl|exact zac hB rfl|exact zac hF rfl|exact zab (za1 rfl rfl) (decide_eq_false (fun h=>h h1))|exact zab (za1 rfl rfl) (decide_eq_true h2)|exact qM));constructor)|refine qP ?_)
  exact retN (.tmp rfl (.inl rfl) (.tmp rfl (.inl rfl) (.tmp rfl (.inl rfl) .nil))) rfl
 by_cases h3:(zcc l).1=0
 case neg =>
  rw[show zaQ r gs l port f=([],[],(zcc l).1) by unfold zaQ;rw[if_neg (fun h=>h h1),if_neg (fun h=>h h2),if_pos h3]]
  repeat' (first|refine qU ?_|((first|apply dX rfl|apply Da rfl rfl|apply Db rfl rfl qN);(focus ((try intro hg);first|exact zac hR rfl|exact zac hG rfl|exact zac hB rfl|exact zac hF rfl|exact zab (za1 rfl rfl) (decide_eq_false (fun h=>h h1))|exact zab (za1 rfl rfl) (decide_eq_false (fun h=>h h2))|exact zab (za1 rfl rfl) (decide_eq_true h3)|exact qM));constructor)|refine qP ?_)
  exact retN (.tmp rfl (.inl rfl) (.tmp rfl (.inl rfl) (.tmp rfl (.inl rfl) .nil))) rfl
 by_cases h4:f.wrong=0
 case neg =>
  rw[show zaQ r gs l port f=([],[],f.wrong) by unfold zaQ;rw[if_neg (fun h=>h h1),if_neg (fun h=>h h2),if_neg (fun h=>h h3),if_pos h4]]
  repeat' (first|refine qU ?_|((first|apply dX rfl|apply Da rfl rfl|apply Db rfl rfl qN);(focus ((try intro hg);first|exact zac hR rfl|exact zac hG rfl|exact zac hB rfl|exact zac hF rfl|exact zab (za1 rfl rfl) (decide_eq_false (fun h=>h h1))|exact zab (za1 rfl rfl) (decide_eq_false (fun h=>h h2))|exact zab (za1 rfl rfl) (decide_eq_false (fun h=>h h3))|exact zab (za1 rfl rfl) (decide_eq_true h4)|exact qM));constructor)|refine qP ?_)
  exact retN (.tmp rfl (.inl rfl) (.tmp rfl (.inl rfl) (.tmp rfl (.inl rfl) .nil))) rfl
 rw[zea ⟨h1,h2,h3,h4⟩]
 have hgr:=zha h2
 have hbr:=right_of h3
 have hrr:=zf2 h1
 have hl30:=hbr.n
 have hgn:=hgr.n
 have hml:(gs.map zaM).length=gs.length:=by simp
 have hfd:=zit h4
 have hI:=zhl gs 114 [.rp [.int .i64 port]] (fun g=>decide (g.port=port)) (znL port)
 rcases zkH (p:=fun g:Gate=>decide (g.port=port)) (l:=gs) (k:=0)with⟨i1,i2⟩|⟨n,g,i1,i2,i3⟩
 ·rw[zeT i2]
  rw[i1]at hI
  repeat' (first|refine zaD 8 (by intro kt et es h;cases (show Box.cells false _ [D.dat false _]=Box.mapb _ _ _ from h)) ?_|refine qU ?_|((first|apply dX rfl|apply Da rfl rfl|apply Db rfl rfl qN);(focus ((try intro hg);first|exact zac hR rfl|exact zac hG rfl|exact zac hB rfl|exact zac hF rfl|exact zab (za1 rfl rfl) (decide_eq_false (fun h=>h h1))|exact zab (za1 rfl rfl) (decide_eq_false (fun h=>h h2))|exact zab (za1 rfl rfl) (decide_eq_false (fun h=>h h3))|exact zab (za1 rfl rfl) (decide_eq_false (fun h=>h h4))|exact zac hI rfl|exact qM));constructor)|refine qP ?_)
  exact retN (.tmp rfl (.inl rfl) (.tmp rfl (.inl rfl) (.tmp rfl (.inl rfl) .nil))) rfl
 rw[zeU i3]
 rw[i1,Nat.zero_add]at hI
 have hgm:g∈gs:=List.mem_of_getElem? i2
 have hg:=hgr.g g hgm
 have hwi:=zpB hg h4
 have hx:gs[((n:Nat):Int).toNat]? = some g:=by rw[Int.toNat_natCast];exact i2
 have cw:=zpA g f
 have cp:=zf1 g r (zcp g f) hg hrr (by omega)
 have cr:=zhV f.dst
 have cc:=zim l (by omega)
 have hbl:zpu g r f=(decide (zcp g f=0) || !g.passes r (zcp g f) || zdx f.dst):=rfl
 unfold zhb
 generalize zcp g f=v at cw cp hwi hbl ⊢
 have hlr:=(zeS (v:=v) (a:=f.src) (p:=port) hbr).1
 have c5:=znB l v f.src port (by omega)
 have c6:=znC hlr v f.dst
 generalize zaU l v f.src port=m at c5 c6 hlr ⊢
 generalize (zck m v f.dst).1=at' at c6 ⊢
 generalize (zck m v f.dst).2=known at c6 ⊢
 repeat' (first|refine zaD 8 (by intro kt et es h;cases (show Box.cells false _ [D.dat false _]=Box.mapb _ _ _ from h)) ?_|(refine zaR 11 rfl rfl (by simp) ?_;refine zgB ?_)|refine qU ?_|refine zat rfl (fun hb=>?_) (fun hb=>?_)|(apply dt rfl;case h=>first|exact zaB _ cc rfl rfl (.own _ _))|((first|apply dX rfl|apply Da rfl rfl|apply Db rfl rfl qN);(focus ((try intro hg);first|exact zac hR rfl|exact zac hG rfl|exact zac hB rfl|exact zac hF rfl|exact zab (za1 rfl rfl) (decide_eq_false (fun h=>h h1))|exact zab (za1 rfl rfl) (decide_eq_false (fun h=>h h2))|exact zab (za1 rfl rfl) (decide_eq_false (fun h=>h h3))|exact zab (za1 rfl rfl) (decide_eq_false (fun h=>h h4))|exact zac hI rfl|exact zab (zam rfl rfl) (decide_eq_false (by omega:¬((n:Nat):Int)<0))|exact zaf rfl rfl (by omega) hx|exact zac cw rfl|exact zac cp rfl|exact zac cr rfl|exact zaB _ cc rfl rfl (.own _ _)|exact zac c5 rfl|exact zac c6 rfl|exact qM));constructor)|refine qP ?_)
 ·rw[if_pos (hbl.trans hb)]
  exact retN (.tmp rfl (.inl rfl) (.tmp rfl (.inl rfl) (.tmp rfl (.inl rfl) .nil))) rfl
 rw[if_neg (fun h=>by rw[hbl.symm.trans h]at hb;cases hb)]
 dsimp only
 refine zag (fun q:Nat×List OutF=>⟨[(1,.dat false (.slice (gs.map zaM))),(2,.dat true (.slice (m.map entV))),(5,.ptr 5 0),(8,.ptr 8 0),(9,.ptr 9 0),(18,.dat true (.int .i64 v)),(19,.dat true (.int .i64 at')),(20,.dat true (.bool known)),(21,.own 130 0 0 q.2.length),(88,.dat false (.slice (gs.map zaM))),(89,.dat true (.int .i64 (gs.map zaM).length)),(90,.dat true (.int .i64 q.1))],
   [(5,.cells false true (r.cells.map (.dat false))),(8,.cells true true [.dat false (.int .i64 port)]),(9,.cells false true (f.cells.map (.dat false))),(130,.row 0 false true 9 (q.2.map outV))],134⟩)
  (fun q=>q.1≤gs.length∧q.2=zgb r (gs.take q.1) v port at' known f) (fun q=>gs.length-q.1) (0,[]) ⟨Nat.zero_le _,by with_unfolding_all rfl⟩
  (Wk_g (fun g=>if g=130 then none else some g) rfl rfl kq) (fun q hq=>?_)
 obtain⟨k,outs⟩:=q
 obtain⟨hk,ho⟩:=hq
 simp only at hk ho
 dsimp only
 by_cases hlt:k<gs.length
 ·have hx1:gs[k]? = some gs[k]:=by simp[hlt]
  have hx2:gs[(k:Int).toNat]? = some gs[k]:=by simp[hlt]
  have hnx:=zfK (r:=r) (v:=v) (port:=port) (at':=at') (known:=known) (f:=f) hx1
  have hug:=hgr.g gs[k] (List.mem_of_getElem? hx1)
  generalize gs[k]=u at hx1 hx2 hnx hug
  have cp2:=zf1 u r v hug hrr (by omega)
  have cl:=zlX u f v (by omega)
  have hsk:znF r v port at' known u=(decide (u.port=port) || (known && decide (u.port≠at')) || !u.passes r v):=rfl
  have hol:outs.length≤31:=by
   rw[ho]
   have:=zfi r (gs.take k) v port at' known f
   have:=List.length_take_le k gs
   omega
  repeat' (first|refine qU ?_|refine zat rfl (fun hc=>?_) (fun hc=>?_)|((first|apply dX rfl|apply Da rfl rfl|apply Db rfl rfl qN);(focus ((try intro hg);first|exact zab (zam rfl rfl) (decide_eq_true (by omega:(k:Int)<((gs.map zaM).length:Int)))|exact zaf rfl rfl (by omega) hx2|exact zac cp2 rfl|exact zac cl rfl|exact zan (f:=outV) (us:=outs) (bs := [(u.port,zcA u f v)]) rfl rfl (.dat _ _) rfl rfl (.inl rfl) rfl (by simp only[List.length_cons,List.length_nil];omega)|exact qM));constructor)|refine qP ?_)
  ·refine zaa (k+1,outs) ⟨hlt,?_⟩ (by simp only;omega) (Wk_g some rfl rfl kq)
   simp only
   rw[hnx,if_pos (hsk.trans hc),List.append_nil,ho]
  ·refine zaa (k+1,outs++[(u.port,zcA u f v)]) ⟨hlt,?_⟩ (by simp only;omega) (Wk_g some rfl rfl kq)
   simp only
   rw[hnx,if_neg (fun h=>by rw[hsk.symm.trans h]at hc;cases hc),ho]
 ·rw[List.take_of_length_le (by omega)]at ho
  repeat' (first|(refine zaR 10 rfl rfl (by simp) ?_;refine zgB ?_)|refine qU ?_|((first|apply dX rfl|apply Da rfl rfl|apply Db rfl rfl qN);(focus ((try intro hg);first|exact zab (zam rfl rfl) (decide_eq_false (by omega:¬(k:Int)<((gs.map zaM).length:Int)))|exact qM));constructor)|refine qP ?_)
  rw[←ho]
  exact retN (.tmp rfl (.inl rfl) (.tmp rfl (.inl rfl) (.tmp rfl (.inl rfl) .nil))) rfl
end Go.Proofs.YtcdhlofhhcgohaaGreat
namespace Go.Proofs.YtcdhlofhhcgohaaGreat
open Go.RowKit
theorem zmQ {v a p:Int} (ha:0≤a∧a≤18446744073709551615):(decide ((IntKind.u64.wrap (a.tdiv 1099511627776)).tmod 2=1) || decide (281474976710656≤a) || decide (v<1) || decide (4094<v) || decide (p<0) || decide (30<p))=zd9 v a p:=by
 have h1:a.tdiv 1099511627776=a / 1099511627776:=Int.tdiv_eq_ediv_of_nonneg ha.1
 have h2:IntKind.u64.wrap (a / 1099511627776)=a / 1099511627776:=wrap_in (by simp only[InK];omega)
 have h3:(a / 1099511627776).tmod 2=a / 1099511627776 % 2:=Int.tmod_eq_emod_of_nonneg (by omega)
 unfold zd9 zji
 rw[zpr ha.1 ha.2,h1,h2,h3]
 have e:decide ((281474976710656:Int)≤a)=decide ((281474976710655:Int)<a):=by
  rw[Bool.eq_iff_iff,decide_eq_true_iff,decide_eq_true_iff];omega
 rw[e]
attribute [local irreducible] SStep DW DWin DOps zaG zaE zaJ retQ zaN FnF FnG Wk IntKind.wrap IntKind.andI IntKind.orI IntKind.xorI IntKind.andNotI IntKind.shlI IntKind.shrI Ent.cmp bsG zck zbl
set_option maxHeartbeats 4000000 in
theorem ziu (l:List Ent) (v a p:Int) (ha:0≤a∧a≤18446744073709551615) (hl:l.length≤4194304):FnG Tryz.prog 124 [.dat false (.slice (l.map entV)),.dat false (.int .i64 v),.dat false (.int .u64 a),.dat false (.int .i64 p)] [] (.dat false (.slice ((zff l v a p).map entV))) []:=by
 refine zbj Tryz.func124 rfl rfl rfl ?_
 simp only[envD]
 have hml:(l.map entV).length=l.length:=by simp
 repeat' (first|refine qU ?_|refine zat rfl (fun hb=>?_) (fun hb=>?_)|((first|apply dX rfl|apply Da rfl rfl|apply Db rfl rfl qN);(focus ((try intro hg);first|exact qM));constructor)|refine qP ?_)
 ·rw[zmQ ha]at hb
  have hL:zff l v a p=l:=by unfold zff;rw[if_pos hb]
  rw[hL]
  exact gOld (.tmp rfl .nil) zav rfl
 rw[zmQ ha]at hb
 have hL:zff l v a p=if(zbl v a p l false false []).2.2=false∧30≤l.length then l else zps v a p (zbl v a p l false false []):=by unfold zff;rw[if_neg (by rw[hb];simp)]
 rw[hL]
 refine zag (fun q:Nat×Bool×Bool×List Ent=>⟨[(0,.dat false (.slice (l.map entV))),(1,.dat false (.int .i64 v)),(2,.dat false (.int .u64 a)),(9,.ptr 9 0),(10,.own 70 0 0 q.2.2.2.length),(11,.dat true (.bool q.2.1)),(12,.dat true (.bool q.2.2.1)),(44,.dat false (.slice (l.map entV))),(45,.dat true (.int .i64 (l.map entV).length)),(46,.dat true (.int .i64 q.1))],
   [(9,.cells false true [.dat false (.int .i64 v),.dat false (.int .u64 a),.dat false (.int .i64 p),.dat true (.int .i64 0)]),(70,.row 0 false true 4 (q.2.2.2.map entV))],91⟩)
  (fun q=>q.1≤l.length∧q.2.2.2.length≤2*q.1∧zbl v a p l false false []=zbl v a p (l.drop q.1) q.2.1 q.2.2.1 q.2.2.2) (fun q=>l.length-q.1) (0,false,false,[]) ⟨Nat.zero_le _,Nat.le_refl _,rfl⟩
  (Wk_g (fun g=>if g=70 then none else some g) rfl rfl kq) (fun q hR=>?_)
 obtain⟨k,put,had,out⟩:=q
 obtain⟨hk,hol,hw⟩:=hR
 simp only at hk hol hw
 dsimp only
 by_cases hlt:k<l.length
 ·have hx:l[(k:Int).toNat]? = some l[k]:=by simp[hlt]
  have hn:l.drop k=l[k]::l.drop (k+1):=List.drop_eq_getElem_cons hlt
  generalize l[k]=x at hx hn
  have hst:zbl v a p (x::l.drop (k+1)) put had out=if x.is v a then zbl v a p (l.drop (k+1)) put true out else if put=false∧(⟨v,a,p,0⟩:Ent).lt x.vid x.addr then zbl v a p (l.drop (k+1)) true had (out++[⟨v,a,p,0⟩]++[x])else zbl v a p (l.drop (k+1)) put had (out++[x]):=by with_unfolding_all rfl
  rw[hn,hst]at hw
  have hah:=zin ⟨v,a,p,0⟩ x
  repeat' (first|refine qU ?_|refine zat rfl (fun hc=>?_) (fun hc=>?_)|((first|apply dX rfl|apply Da rfl rfl|apply Db rfl rfl qN);(focus ((try intro hg);first|exact zab (zam rfl rfl) (decide_eq_true (by omega:(k:Int)<((l.map entV).length:Int)))|exact zaf rfl rfl (by omega) hx|exact zac hah rfl|exact zan (f:=entV) (us:=out) (bs := [⟨v,a,p,0⟩]) rfl rfl (.dat _ _) rfl rfl (.inr ⟨rfl,inferInstance⟩) rfl (by simp only[List.length_cons,List.length_nil];omega)|exact zan (f:=entV) (us:=out++[⟨v,a,p,0⟩]) (bs := [x]) rfl rfl (.dat _ _) rfl rfl (.inr ⟨rfl,inferInstance⟩) rfl (by simp only[List.length_cons,List.length_nil,List.length_append];omega)|exact zan (f:=entV) (us:=out) (bs := [x]) rfl rfl (.dat _ _) rfl rfl (.inr ⟨rfl,inferInstance⟩) rfl (by simp only[List.length_cons,List.length_nil];omega)|exact qM));constructor)|refine qP ?_)
  ·simp only[Bool.and_eq_true,decide_eq_true_eq]at hc
   rw[if_pos (show x.is v a from hc)]at hw
   exact zaa (k+1,put,true,out) ⟨hlt,by simp only;omega,hw⟩ (by simp only;omega) (Wk_g some rfl rfl kq)
  ·rename_i hc1
   have hni:¬x.is v a:=fun h=>by simp[h.1,h.2]at hc1
   simp only[Bool.and_eq_true,Bool.not_eq_true',decide_eq_true_eq]at hc
   rw[if_neg hni,if_pos hc]at hw
   exact zaa (k+1,true,had,out++[⟨v,a,p,0⟩]++[x]) ⟨hlt,by simp;omega,hw⟩ (by simp only;omega) (Wk_g some rfl rfl kq)
  ·rename_i hc1
   have hni:¬x.is v a:=fun h=>by simp[h.1,h.2]at hc1
   rw[if_neg hni,if_neg (fun h=>by rw[h.1,decide_eq_true h.2]at hc;cases hc)]at hw
   exact zaa (k+1,put,had,out++[x]) ⟨hlt,by simp;omega,hw⟩ (by simp only;omega) (Wk_g some rfl rfl kq)
 ·have hs0:zbl v a p [] put had out=(out,put,had):=by with_unfolding_all rfl
  rw[List.drop_eq_nil_of_le (by omega),hs0]at hw
  rw[hw]
  simp only
  have hkl:k=l.length:=by omega
  cases put
  ·repeat' (first|(refine zaR 8 rfl rfl (by simp) ?_;refine zgB ?_)|refine qU ?_|refine zat rfl (fun hc=>?_) (fun hc=>?_)|((first|apply dX rfl|apply Da rfl rfl|apply Db rfl rfl qN);(focus ((try intro hg);first|exact zab (zam rfl rfl) (decide_eq_false (by omega:¬(k:Int)<((l.map entV).length:Int)))|exact zan (f:=entV) (us:=out) (bs := [⟨v,a,p,0⟩]) rfl rfl (.dat _ _) rfl rfl (.inr ⟨rfl,inferInstance⟩) rfl (by simp only[List.length_cons,List.length_nil];omega)|exact qM));constructor)|refine qP ?_)
   ·simp only[Bool.and_eq_true,Bool.not_eq_true',decide_eq_true_eq,hml]at hc
    rw[if_pos ⟨hc.1,by omega⟩]
    exact gOld (.tmp rfl .nil) zav rfl
   ·have hn:¬(had=false∧30≤l.length):=fun h=>by
     rw[h.1,decide_eq_true (show(30:Int)≤((l.map entV).length:Int) by omega)]at hc
     cases hc
    rw[if_neg hn]
    exact gOld (.tmp rfl .nil) zav (by with_unfolding_all rfl)
  ·repeat' (first|(refine zaR 8 rfl rfl (by simp) ?_;refine zgB ?_)|refine qU ?_|refine zat rfl (fun hc=>?_) (fun hc=>?_)|((first|apply dX rfl|apply Da rfl rfl|apply Db rfl rfl qN);(focus ((try intro hg);first|exact zab (zam rfl rfl) (decide_eq_false (by omega:¬(k:Int)<((l.map entV).length:Int)))|exact qM));constructor)|refine qP ?_)
   ·simp only[Bool.and_eq_true,Bool.not_eq_true',decide_eq_true_eq,hml]at hc
    rw[if_pos ⟨hc.1,by omega⟩]
    exact gOld (.tmp rfl .nil) zav rfl
   ·have hn:¬(had=false∧30≤l.length):=fun h=>by
     rw[h.1,decide_eq_true (show(30:Int)≤((l.map entV).length:Int) by omega)]at hc
     cases hc
    rw[if_neg hn]
    exact gOld (.tmp rfl .nil) zav (by with_unfolding_all rfl)
end Go.Proofs.YtcdhlofhhcgohaaGreat
