/- Law: TopRing. -/
import Derived.Test.YtcdhlofhhcgohaaGreatxdTopS
namespace Go.Proofs.YtcdhlofhhcgohaaGreat
open Go.RowKit
theorem down_kin (k j:Nat):Kin (lineN k true) (downN k j):=⟨rfl,by unfold downN;exact map_modify (f:=keyL) (g:=fun l:Link=>{ l with up:=false }) (fun _=>rfl) _ _⟩
theorem ringN_links {k:Nat} (hk:3≤k):(lineN k true).links.length=k:=by
 unfold lineN ringLk
 rw[if_pos ⟨rfl,by omega⟩]
 simp;omega
theorem down_do {k j:Nat} (hk:3≤k) (hj:j<k):doS (lineN k true) ⟨3,j,0,0⟩=(downN k j,0):=by
 have hl:=ringN_links hk
 unfold doS
 rw[if_pos (.inr (.inl rfl)),if_neg (by rw[hl];simp only;omega),if_pos (by show(3:Int)≠4;decide)]
 rfl
theorem down_good {k j:Nat} (hk:3≤k) (hk2:k≤12) (hj:j<k):(downN k j).good:=by
 have:=doS_good (lineN_good hk2 true) ⟨3,j,0,0⟩ (by rw[down_do hk hj])
 rw[down_do hk hj]at this
 exact this
theorem down_typed (k j:Nat):(downN k j).typed:=⟨(lineN_typed k true).ad,(lineN_typed k true).wy⟩
theorem down_wrong : ∀ k,k<13→3≤k→∀ j,j<k→(downN k j).wrong=(0,0):=by decide +kernel
theorem down_one {k j:Nat}:∀ b∈(downN k j).bridges,b.region=regR:=line_one (k:=k) (ring:=true)
theorem down_len (k j:Nat):(downN k j).bridges.length=k:=lineN_len k true
theorem regR_right : regR.wrong=0:=by decide +kernel
attribute [local irreducible] SStep DW DWin DOps thenQ inBlk loopQ retQ retQG FnF FnG FnI FnM Wk IntKind.wrap IntKind.andI IntKind.orI IntKind.xorI IntKind.andNotI IntKind.shlI IntKind.shrI playA onA ticksN tkN planF portsOf roleF opensT planS lineN downN sendR fldP
set_option maxHeartbeats 8000000 in
theorem law_TopRing (k broken frm:Int):FnF Tryz.prog 9 [.int .i64 k,.int .i64 broken,.int .i64 frm] (.bool true):=by
 refine fnF_of Tryz.func9 rfl rfl rfl ?_
 simp only[envOf]
 by_cases c1:k<3
 ·repeat' (first|refine qU ?_|refine qW ?_|((first|apply dX rfl|apply Da rfl rfl|apply Db rfl rfl qN);(focus ((try intro hg);first|exact S_call top_alive rfl|exact qMo));constructor)|refine qP ?_)
  refine ret1 rfl qF ?_
  rfl
 by_cases c2:12<k
 ·repeat' (first|refine qU ?_|refine qW ?_|((first|apply dX rfl|apply Da rfl rfl|apply Db rfl rfl qN);(focus ((try intro hg);first|exact S_call top_alive rfl|exact qMo));constructor)|refine qP ?_)
  refine ret1 rfl qF ?_
  rfl
 by_cases c3:broken<0
 ·repeat' (first|refine qU ?_|refine qW ?_|((first|apply dX rfl|apply Da rfl rfl|apply Db rfl rfl qN);(focus ((try intro hg);first|exact S_call top_alive rfl|exact qMo));constructor)|refine qP ?_)
  refine ret1 rfl qF ?_
  rfl
 by_cases c4:k≤broken
 ·repeat' (first|refine qU ?_|refine qW ?_|((first|apply dX rfl|apply Da rfl rfl|apply Db rfl rfl qN);(focus ((try intro hg);first|exact S_call top_alive rfl|exact qMo));constructor)|refine qP ?_)
  refine ret1 rfl qF ?_
  rfl
 by_cases c5:frm<0
 ·repeat' (first|refine qU ?_|refine qW ?_|((first|apply dX rfl|apply Da rfl rfl|apply Db rfl rfl qN);(focus ((try intro hg);first|exact S_call top_alive rfl|exact qMo));constructor)|refine qP ?_)
  refine ret1 rfl qF ?_
  rfl
 by_cases c6:k≤frm
 ·repeat' (first|refine qU ?_|refine qW ?_|((first|apply dX rfl|apply Da rfl rfl|apply Db rfl rfl qN);(focus ((try intro hg);first|exact S_call top_alive rfl|exact qMo));constructor)|refine qP ?_)
  refine ret1 rfl qF ?_
  rfl
 obtain⟨K,rfl⟩:∃ K:Nat,k=(K:Int):=⟨k.toNat,by omega⟩
 obtain⟨J,rfl⟩:∃ J:Nat,broken=(J:Int):=⟨broken.toNat,by omega⟩
 obtain⟨F,rfl⟩:∃ F:Nat,frm=(F:Int):=⟨frm.toNat,by omega⟩
 have hln:=top_line K (by omega) true
 have htk:=top_ticks 90
 have hg:=lineN_good (k:=K) (by omega) true
 have hd:=dist_of hg line_one (ring_dist K (by omega) (by omega))
 have hnl:=ringN_links (k:=K) (by omega)
 have hnb:=lineN_len K true
 have hp:=talk_Play (lineN K true) (lineN_typed K true) 1 [⟨1,90,0,0⟩]
 rw[play_loop (lineN_wrong (by omega) true) (by simp),on_tick (by decide),on_nil]at hp
 have htg:goodT (lineN K true) (ticksN (lineN K true) (start0 (lineN K true) 1) (90:Int).toNat):=ticksN_good (start0_good (by decide)) _
 have htl:(ticksN (lineN K true) (start0 (lineN K true) 1) (90:Int).toNat).length=1:=by rw[ticks_len];simp[start0]
 have hop:=fun(x:Link) (hx:x∈(lineN K true).links)=>link_at hg line_one (tree:=0) hd (start0_good (trees:=1) (by decide)) (by simp[start0]) (T:=(90:Int).toNat) (by decide) hx
 have hat:=fun(b:Nat) p (hb:b<(lineN K true).bridges.length) (hp:p∈portsOf (lineN K true).links b)=>both_at hg line_one (tree:=0) hd (start0_good (trees:=1) (by decide)) (by simp[start0]) (T:=(90:Int).toNat) (by decide) hb hp
 have hct:=ring_open K (by omega) (by omega)
 have hf1:=ring_fld K (by omega) (by omega) F (by omega)
 generalize ticksN (lineN K true) (start0 (lineN K true) 1) (90:Int).toNat=t at hp htg htl hop hat
 have hfl1:Flood (lineN K true) t (opX (planS (lineN K true) 0 0 (dRing K 0))) 7 frmG regR 0:=flood_of hg line_one regR_right (by decide +kernel) (by omega) (by omega) hat (by decide)
 obtain⟨s1,b1,hs1,hl1⟩:=flood_send hfl1 (frm:=F) (by rw[hnb];omega) (by omega) hf1
 have hc1:=top_send (lineN K true) (lineN_typed K true) (by rw[lineN_wrong (by omega)]) (by omega) t htg (by omega) F 7 hs1
 have hg2:=down_good (k:=K) (j:=J) (by omega) (by omega) (by omega)
 have hd2:=dist_of hg2 down_one (down_dist K (by omega) (by omega) J (by omega))
 have htg2:goodT (downN K J) t:=goodT_kin (down_kin K J) htg
 have hon:=talk_On (lineN K true) (lineN_typed K true) t (fun _=>⟨htg,by omega⟩) [⟨3,J,0,0⟩,⟨1,90,0,0⟩]
 rw[onA_loop (by rw[lineN_wrong (by omega)]) (by simp),on_do (by simp) (down_do (by omega) (by omega)),on_tick (by decide),on_nil]at hon
 have htg3:goodT (downN K J) (ticksN (downN K J) t (90:Int).toNat):=ticksN_good htg2 _
 have htl3:(ticksN (downN K J) t (90:Int).toNat).length=1:=by rw[ticks_len];exact htl
 have hat2:=fun(b:Nat) p (hb:b<(downN K J).bridges.length) (hp:p∈portsOf (downN K J).links b)=>both_at hg2 down_one (tree:=0) hd2 htg2 (by omega) (T:=(90:Int).toNat) (by decide) hb hp
 have hf2:=down_fld K (by omega) (by omega) J (by omega) F (by omega)
 have hnb2:=down_len K J
 generalize ticksN (downN K J) t (90:Int).toNat=u at hon htg3 htl3 hat2
 have hfl2:Flood (downN K J) u (opX (planS (downN K J) 0 0 (dCut K J))) 7 frmG regR 0:=flood_of hg2 down_one regR_right (by decide +kernel) (by omega) (by omega) hat2 (by decide)
 obtain⟨s2,b2,hs2,hl2⟩:=flood_send hfl2 (frm:=F) (by rw[hnb2];omega) (by omega) hf2
 have hc2:=top_send (downN K J) (down_typed K J) (by rw[down_wrong K (by omega) (by omega) J (by omega)]) (by omega) u htg3 (by omega) F 7 hs2
 change ∀ x,x∈(lineN K true).links→opensT t (0:Nat) x.a x.pa=opX (planS (lineN K true) 0 0 (dRing K 0)) x.a.toNat x.pa∧opensT t (0:Nat) x.b x.pb=opX (planS (lineN K true) 0 0 (dRing K 0)) x.b.toNat x.pb at hop
 clear hat hat2 hd hd2 hf1 hf2 hs1 hs2 hfl1 hfl2 htg2 htg3 hg2
 generalize planS (lineN K true) 0 0 (dRing K 0)=ps at hop hct
 generalize lineN K true=n at hln hg hp htg hop hct hnl hnb hc1 hon
 generalize downN K J=m at hon hc2
 change FnF _ _ _ (.tuple [n.v,talkV t,faultV (0,0)])at hp
 change FnF _ _ _ (.tuple [m.v,talkV u,faultV (0,0)])at hon
 have hml:(n.links.map linkV).length=n.links.length:=by simp
 have hm1:(s1.map outV).length=s1.length:=by simp
 have hm2:(s2.map outV).length=s2.length:=by simp
 repeat' (first|refine qU ?_|refine qW ?_|((first|apply dX rfl|apply Da rfl rfl|apply Db rfl rfl qN);(focus ((try intro hg);first|exact S_call top_alive rfl|exact S_call hln rfl|exact S_call htk rfl|exact S_call hp rfl|exact qMo));constructor)|refine qP ?_)
 refine DW_loop (fun j:Nat=>⟨[(0,.dat false (.int .i64 K)),(1,.dat false (.int .i64 J)),(2,.dat false (.int .i64 F)),(7,.ptr 7 0),(8,.ptr 8 0),(9,.ptr 9 0),(10,.dat true (.int .i64 ((n.links.take j).countP (bothX ps)))),(53,.dat true (.slice (n.links.map linkV))),(54,.dat true (.int .i64 (n.links.map linkV).length)),(55,.dat true (.int .i64 j))],[(7,.cells false true (n.cells.map (.dat true))),(8,.cells false true [.dat true (.slice (t.map mindsRow))]),(9,.cells false true [.dat true (.int .i64 0),.dat true (.int .i64 0)])],134⟩)
  (fun j=>j≤n.links.length) (fun j=>n.links.length-j) 0 (Nat.zero_le _) (Wk_g some rfl rfl kq) (fun j hj=>?_)
 by_cases hlt:j<n.links.length
 ·have hx0:n.links[j]? = some n.links[j]:=by simp[hlt]
  have hx:n.links[(j:Int).toNat]? = some n.links[j]:=by simp[hlt]
  have htc:=countP_take (p:=bothX ps) hx0
  obtain⟨o1,o2⟩:=hop _ (List.getElem_mem hlt)
  generalize n.links[j]=x at hx htc o1 o2
  rw[show bothX ps x=(opX ps x.a.toNat x.pa && opX ps x.b.toNat x.pb)from rfl]at htc
  have ho1:=talk_Opens n hg t htg (0:Nat) x.a x.pa
  have ho2:=talk_Opens n hg t htg (0:Nat) x.b x.pb
  rw[o1]at ho1
  rw[o2]at ho2
  change FnF _ _ [talkV t,.int .i64 0,.int .i64 x.a,.int .i64 x.pa] _ at ho1
  change FnF _ _ [talkV t,.int .i64 0,.int .i64 x.b,.int .i64 x.pb] _ at ho2
  generalize opX ps x.a.toNat x.pa=q1 at ho1 htc
  generalize opX ps x.b.toNat x.pb=q2 at ho2 htc
  have hle:(n.links.take j).countP (bothX ps)≤12:=Nat.le_trans List.countP_le_length (by rw[List.length_take];omega)
  cases q1
  ·rw[if_neg (by simp),Nat.add_zero]at htc
   repeat' (first|refine qU ?_|refine qW ?_|((first|apply dX rfl|apply Da rfl rfl|apply Db rfl rfl qN);(focus ((try intro hg);first|exact S_ixM rfl rfl (by omega) hx|exact S_call ho1 rfl|exact S_call ho2 rfl|exact qMo));constructor)|refine qP ?_)
   exact loop_again (j+1) hlt (by omega) (by rw[htc];exact Wk_g some rfl rfl kq)
  ·cases q2
   ·rw[if_neg (by simp),Nat.add_zero]at htc
    repeat' (first|refine qU ?_|refine qW ?_|((first|apply dX rfl|apply Da rfl rfl|apply Db rfl rfl qN);(focus ((try intro hg);first|exact S_ixM rfl rfl (by omega) hx|exact S_call ho1 rfl|exact S_call ho2 rfl|exact qMo));constructor)|refine qP ?_)
    exact loop_again (j+1) hlt (by omega) (by rw[htc];exact Wk_g some rfl rfl kq)
   ·rw[if_pos (by simp)]at htc
    generalize (n.links.take j).countP (bothX ps)=z at htc hle
    repeat' (first|refine qU ?_|refine qW ?_|((first|apply dX rfl|apply Da rfl rfl|apply Db rfl rfl qN);(focus ((try intro hg);first|exact S_ixM rfl rfl (by omega) hx|exact S_call ho1 rfl|exact S_call ho2 rfl|exact qMo));constructor)|refine qP ?_)
    exact loop_again (j+1) hlt (by omega) (by rw[htc];exact Wk_g some rfl rfl kq)
 ·rw[List.take_of_length_le (by omega),hct]
  have hK:((K-1:Nat):Int)=(K:Int)-1:=by omega
  rw[hK]
  have he1:(((s1.map outV).length:Nat):Int)=(K:Int)-1:=by omega
  have he2:(((s2.map outV).length:Nat):Int)=(K:Int)-1:=by omega
  repeat' (first|refine qU ?_|refine qW ?_|((first|apply dX rfl|apply Da rfl rfl|apply Db rfl rfl qN);(focus ((try intro hg);first|exact S_call htk rfl|exact S_call hc1 rfl|exact S_call hon rfl|exact S_call hc2 rfl|exact qMo));constructor)|refine qP ?_)
  refine ret1 rfl qF ?_
  rfl
end Go.Proofs.YtcdhlofhhcgohaaGreat
