/- Contracts: slices.Equal at what is the same, slices.Index, talk.right at what fits, talk.Opens. -/
import Derived.Test.YtcdhlofhhcgohaaGreatxcPlP
import Derived.Test.YtcdhlofhhcgohaaGreatxdPlS
namespace Go.Proofs.YtcdhlofhhcgohaaGreat
open Go.RowKit
attribute [local irreducible] SStep DW DWin DOps thenQ inBlk loopQ retQ retQG FnF FnG FnI Wk IntKind.wrap IntKind.andI IntKind.orI IntKind.xorI IntKind.andNotI IntKind.shlI IntKind.shrI Region.wrong Bridge.wrong Link.wrong Bridge.prio identR sortE sortI rawE rawP famX ctrD famM idsR srtX liveB roleOf
set_option maxHeartbeats 2000000 in
theorem plan_Ports (n:Net) (hn:n.links.length≤40) (i:Int):FnF Tryz.prog 46 [.rp n.cells,.int .i64 i] (.slice ((portsOf n.links i).map intV1)):=by
 refine fnF_of Tryz.func46 rfl rfl rfl ?_
 simp only[envOf]
 have hml:(n.links.map linkV).length=n.links.length:=by simp
 repeat' (first|refine qU ?_|((first|apply dX rfl|apply Da rfl rfl|apply Db rfl rfl qN);(focus ((try intro hg);first|exact qM));constructor)|refine qP ?_)
 refine DW_loop (fun p:Nat×List Int=>⟨[(1,.dat false (.int .i64 i)),(5,.own 5 0 0 p.2.length),(11,.dat false (.slice (n.links.map linkV))),(12,.dat true (.int .i64 (n.links.map linkV).length)),(13,.dat true (.int .i64 p.1))],[(5,.row 0 false true 1 (p.2.map intV1))],39⟩)
  (fun p=>p.1≤n.links.length∧p.2=rawP (n.links.take p.1) i) (fun p=>n.links.length-p.1) (0,[]) ⟨Nat.zero_le _,(rawP_nil _ _).symm⟩
  (Wk_g (fun g=>if g=5 then none else some g) rfl rfl kq) (fun p hR=>?_)
 obtain⟨k,us⟩:=p
 obtain⟨hk,hus⟩:=hR
 simp only at hk hus
 dsimp only
 have hul:us.length≤2*k:=by rw[hus];have:=rawP_len (n.links.take k) i;simp at this;omega
 by_cases hlt:k<n.links.length
 ·have hx:n.links[(k:Int).toNat]? = some n.links[k]:=by simp[hlt]
  have hst:=rawP_step (i:=i) (show n.links[k]? = some n.links[k] by simp[hlt])
  rw[←hus]at hst
  generalize n.links[k]=l at hx hst
  have hpa:portAt i l=(if l.a=i then [l.pa]else [])++(if l.b=i then [l.pb]else []):=rfl
  by_cases ha:l.a=i<;>by_cases hb:l.b=i
  ·rw[if_pos ha,if_pos hb]at hpa
   repeat' (first|refine qU ?_|refine qW ?_|((first|apply dX rfl|apply Da rfl rfl|apply Db rfl rfl qN);(focus ((try intro hg);first|exact S_ixM rfl rfl (by omega) hx|exact S_appM (f:=intV1) (us:=us) (bs := [l.pa]) rfl rfl (.dat _ _) rfl rfl (.inr ⟨rfl,inferInstance⟩) rfl (by simp only[List.length_singleton];omega)|exact S_appM (f:=intV1) (us:=us++[l.pa]) (bs := [l.pb]) rfl rfl (.dat _ _) rfl rfl (.inr ⟨rfl,inferInstance⟩) rfl (by simp only[List.length_singleton,List.length_append];omega)|exact qM));constructor)|refine qP ?_)
   exact loop_again (k+1,us++[l.pa]++[l.pb]) ⟨hlt,by rw[hst,hpa];simp⟩ (by simp only;omega) (Wk_g some rfl rfl kq)
  ·rw[if_pos ha,if_neg hb]at hpa
   repeat' (first|refine qU ?_|refine qW ?_|((first|apply dX rfl|apply Da rfl rfl|apply Db rfl rfl qN);(focus ((try intro hg);first|exact S_ixM rfl rfl (by omega) hx|exact S_appM (f:=intV1) (us:=us) (bs := [l.pa]) rfl rfl (.dat _ _) rfl rfl (.inr ⟨rfl,inferInstance⟩) rfl (by simp only[List.length_singleton];omega)|exact qM));constructor)|refine qP ?_)
   exact loop_again (k+1,us++[l.pa]) ⟨hlt,by rw[hst,hpa];simp⟩ (by simp only;omega) (Wk_g some rfl rfl kq)
  ·rw[if_neg ha,if_pos hb]at hpa
   repeat' (first|refine qU ?_|refine qW ?_|((first|apply dX rfl|apply Da rfl rfl|apply Db rfl rfl qN);(focus ((try intro hg);first|exact S_ixM rfl rfl (by omega) hx|exact S_appM (f:=intV1) (us:=us) (bs := [l.pb]) rfl rfl (.dat _ _) rfl rfl (.inr ⟨rfl,inferInstance⟩) rfl (by simp only[List.length_singleton];omega)|exact qM));constructor)|refine qP ?_)
   exact loop_again (k+1,us++[l.pb]) ⟨hlt,by rw[hst,hpa];simp⟩ (by simp only;omega) (Wk_g some rfl rfl kq)
  ·rw[if_neg ha,if_neg hb]at hpa
   repeat' (first|refine qU ?_|refine qW ?_|((first|apply dX rfl|apply Da rfl rfl|apply Db rfl rfl qN);(focus ((try intro hg);first|exact S_ixM rfl rfl (by omega) hx|exact qM));constructor)|refine qP ?_)
   exact loop_again (k+1,us) ⟨hlt,by rw[hst,hpa];simp⟩ (by simp only;omega) (Wk_g some rfl rfl kq)
 ·have he:us=rawP n.links i:=by rw[hus,List.take_of_length_le (by omega)]
  subst he
  have hsl:(sortI (rawP n.links i)).length=(rawP n.links i).length:=by with_unfolding_all exact List.length_mergeSort _
  have hso:=ints_Sort (rawP n.links i) (by have:=rawP_len n.links i;omega)
  rw[portsOf_eq]
  repeat' (first|refine DW_mark 5 (bx := .row 0 false true 1 ((sortI (rawP n.links i)).map intV1)) rfl ?_|refine qU ?_|refine qW ?_|((first|apply dX rfl|apply Da rfl rfl|apply Db rfl rfl qN);(focus ((try intro hg);first|exact S_callI 5 hso rfl rfl|exact qM));constructor)|refine qP ?_)
  intro _
  refine DW_seal 5 rfl rfl (by rw[List.length_map,hsl]) ?_
  repeat' (first|refine qU ?_|((first|apply dX rfl|apply Da rfl rfl|apply Db rfl rfl qN);(focus ((try intro hg);first|exact qM));constructor)|refine qP ?_)
  refine ret1 rfl (.inl rfl) ?_
  rfl
theorem end_IndexFunc (l:List End) (f:FuncId) (cap:List V) (p:End→Bool) (hf:∀ b,FnF Tryz.prog f (.agg (endV b)::cap) (.bool (p b))):FnF Tryz.prog 198 [.slice (l.map endV),.fn f cap] (.int .i64 (if l.any p then(l.findIdx p:Int)else -1)):=by
 refine fnF_of Tryz.func198 rfl rfl rfl ?_
 simp only[envOf]
 refine DW_len 0 rfl (fun hlen=>?_)
 have hml:(l.map endV).length=l.length:=by simp
 repeat' (first|refine qU ?_|((first|apply dX rfl|apply Da rfl rfl|apply Db rfl rfl qN);(focus ((try intro hg);first|exact qM));constructor)|refine qP ?_)
 refine DW_loop (fun k:Nat=>⟨[(0,.dat false (.slice (l.map endV))),(1,.dat false (.fn f cap)),(7,.dat true (.int .i64 (l.map endV).length)),(8,.dat true (.int .i64 k))],[],19⟩)
  (fun k=>k≤l.length∧(l.take k).any p=false) (fun k=>l.length-k) 0 ⟨Nat.zero_le _,by simp⟩
  (Wk_g some rfl rfl kq) (fun k hR=>?_)
 obtain⟨hk,ha⟩:=hR
 by_cases hlt:k<l.length
 ·have hx:l[(k:Int).toNat]? = some l[k]:=by simp[hlt]
  have hx':l[k]? = some l[k]:=by simp[hlt]
  have hfb:=hf l[k]
  generalize l[k]=b at hx hx' hfb
  have ht:l.take (k+1)=l.take k++[b]:=by rw[List.take_add_one,hx'];rfl
  cases hp:p b with
  | true =>
   rw[hp]at hfb
   repeat' (first|refine qU ?_|refine qW ?_|((first|apply dX rfl|apply Da rfl rfl|apply Db rfl rfl qN);(focus ((try intro hg);first|exact S_ixM rfl rfl (by omega) hx|exact S_callv rfl rfl hfb|exact qM));constructor)|refine qP ?_)
   refine ret1 rfl (.inl rfl) ?_
   have hany:l.any p=true:=List.any_eq_true.2 ⟨b,List.mem_of_getElem? hx',hp⟩
   rw[if_pos hany]
   have:l.findIdx p=k:=by
    rw[List.findIdx_eq hlt]
    refine⟨?_,fun j hj=>?_⟩
    ·have:l[k]=b:=(List.getElem?_eq_some_iff.1 hx').2
     rw[this];exact hp
    ·have:=List.any_eq_false.1 ha (l[j]) (by rw[List.mem_take_iff_getElem];exact⟨j,by omega,rfl⟩)
     simpa using this
   rw[this]
  | false =>
   rw[hp]at hfb
   repeat' (first|refine qU ?_|refine qW ?_|((first|apply dX rfl|apply Da rfl rfl|apply Db rfl rfl qN);(focus ((try intro hg);first|exact S_ixM rfl rfl (by omega) hx|exact S_callv rfl rfl hfb|exact qM));constructor)|refine qP ?_)
   exact loop_again (k+1) ⟨hlt,by rw[ht,List.any_append,ha];simp[hp]⟩ (by omega) (Wk_g some rfl rfl kq)
 ·rw[List.take_of_length_le (by omega)]at ha
  repeat' (first|refine qU ?_|refine qW ?_|((first|apply dX rfl|apply Da rfl rfl|apply Db rfl rfl qN);(focus ((try intro hg);first|exact qM));constructor)|refine qP ?_)
  refine ret1 rfl (.inl rfl) ?_
  rw[if_neg (by rw[ha];simp)]
theorem end_ContainsFunc (l:List End) (f:FuncId) (cap:List V) (p:End→Bool) (hf:∀ b,FnF Tryz.prog f (.agg (endV b)::cap) (.bool (p b))):FnF Tryz.prog 172 [.slice (l.map endV),.fn f cap] (.bool (l.any p)):=by
 refine fnF_of Tryz.func172 rfl rfl rfl ?_
 simp only[envOf]
 repeat' (first|refine qU ?_|((first|apply dX rfl|apply Da rfl rfl|apply Db rfl rfl qN);(focus ((try intro hg);first|exact S_call (end_IndexFunc l f cap p hf) rfl|exact qM));constructor)|refine qP ?_)
 refine ret1 rfl (.inl rfl) ?_
 congr 1
 split
 ·rename_i h
  rw[h,decide_eq_true_iff];omega
 ·rename_i h
  rw[Bool.eq_false_iff.2 h,decide_eq_false_iff_not];omega
theorem roles_fn (p:Int) (e:End):FnF Tryz.prog 173 [.agg (endV e),.rp [.int .i64 p]] (.bool (decide (e.port=p))):=by
 refine fnF_of Tryz.func173 rfl rfl rfl ?_
 simp only[envOf]
 repeat' (first|refine qU ?_|((first|apply dX rfl|apply Da rfl rfl|apply Db rfl rfl qN);(focus ((try intro hg);first|exact qM));constructor)|refine qP ?_)
 refine ret1 rfl (.inl rfl) ?_
 rfl
set_option maxHeartbeats 2000000 in
theorem plan_Roles (n:Net) (hn:n.links.length≤40) (i:Int) (ends:List End) (says:Vec) (root:Int) (l:List Offer) :
  FnF Tryz.prog 137 [.rp n.cells,.int .i64 i,.slice (ends.map endV),says.v,.int .i64 root,offers l] (.tuple [.slice ((portsOf n.links i).map intV1),.slice ((rolesP ends says root l (portsOf n.links i)).map intV1)]):=by
 refine fnF_of Tryz.func137 rfl rfl rfl ?_
 simp only[envOf]
 have hpl:(portsOf n.links i).length≤80:=by
  have:=rawP_len n.links i
  rw[portsOf_eq];unfold sortI;rw[List.length_mergeSort];omega
 have hpo:=plan_Ports n hn i
 generalize portsOf n.links i=ps at hpl hpo
 have hml:(ps.map intV1).length=ps.length:=by simp
 repeat' (first|refine qU ?_|((first|apply dX rfl|apply Da rfl rfl|apply Db rfl rfl qN);(focus ((try intro hg);first|exact S_call hpo rfl|exact qM));constructor)|refine qP ?_)
 refine DW_loop (fun p:Nat×List Int=>⟨[(2,.dat false (.slice (ends.map endV))),(4,.dat false (.int .i64 root)),(5,.dat false (offers l)),(9,.ptr 9 0),(12,.dat true (.slice (ps.map intV1))),(13,.own 13 0 0 p.2.length),(20,.dat true (.slice (ps.map intV1))),(21,.dat true (.int .i64 (ps.map intV1).length)),(22,.dat true (.int .i64 p.1))],
   [(9,.cells false true (says.cells.map (.dat false))),(13,.row 0 false true 1 (p.2.map intV1))],41⟩)
  (fun p=>p.1≤ps.length∧p.2=rolesP ends says root l (ps.take p.1)) (fun p=>ps.length-p.1) (0,[]) ⟨Nat.zero_le _,rfl⟩
  (Wk_g (fun g=>if g=13 then none else some g) rfl rfl kq) (fun p hR=>?_)
 obtain⟨k,us⟩:=p
 obtain⟨hk,hus⟩:=hR
 simp only at hk hus
 dsimp only
 have hul:us.length=k:=by rw[hus,rolesP_len];simp;omega
 by_cases hlt:k<ps.length
 ·have hx:ps[(k:Int).toNat]? = some ps[k]:=by simp[hlt]
  have ht:ps.take (k+1)=ps.take k++[ps[k]]:=by rw[List.take_add_one,List.getElem?_eq_getElem hlt];rfl
  generalize ps[k]=p at hx ht
  have hc:=end_ContainsFunc ends 173 [.rp [.int .i64 p]] (fun e=>decide (e.port=p)) (fun e=>roles_fn p e)
  have hnext:rolesP ends says root l (ps.take (k+1))=us++[if ends.any (fun e=>decide (e.port=p))then roleOf says root p l else 0]:=by
   rw[ht,hus];unfold rolesP;rw[List.map_append];rfl
  have hro:=vec_Role says root p l
  cases ha:ends.any (fun e=>decide (e.port=p))with
  | true =>
   rw[ha]at hc hnext
   rw[if_pos rfl]at hnext
   repeat' (first|refine qU ?_|refine qW ?_|((first|apply dX rfl|apply Da rfl rfl|apply Db rfl rfl qN);(focus ((try intro hg);first|exact S_ixM rfl rfl (by omega) hx|exact S_frz 15 rfl rfl (S_makeFunc rfl)|exact S_call hc rfl|exact S_call hro rfl|exact S_appM (f:=intV1) (us:=us) (bs := [roleOf says root p l]) rfl rfl (.dat _ _) rfl rfl (.inr ⟨rfl,inferInstance⟩) rfl (by simp only[List.length_singleton];omega)|exact qM));constructor)|refine qP ?_)
   exact loop_again (k+1,us++[roleOf says root p l]) ⟨hlt,hnext.symm⟩ (by simp only;omega) (Wk_g some rfl rfl kq)
  | false =>
   rw[ha]at hc hnext
   rw[if_neg (by simp)]at hnext
   repeat' (first|refine qU ?_|refine qW ?_|((first|apply dX rfl|apply Da rfl rfl|apply Db rfl rfl qN);(focus ((try intro hg);first|exact S_ixM rfl rfl (by omega) hx|exact S_frz 15 rfl rfl (S_makeFunc rfl)|exact S_call hc rfl|exact S_appM (f:=intV1) (us:=us) (bs := [0]) rfl rfl (.dat _ _) rfl rfl (.inr ⟨rfl,inferInstance⟩) rfl (by simp only[List.length_singleton];omega)|exact qM));constructor)|refine qP ?_)
   exact loop_again (k+1,us++[0]) ⟨hlt,hnext.symm⟩ (by simp only;omega) (Wk_g some rfl rfl kq)
 ·have he:us=rolesP ends says root l ps:=by rw[hus,List.take_of_length_le (by omega)]
  refine DW_seal 13 rfl rfl (by simp) ?_
  repeat' (first|refine qU ?_|refine qW ?_|((first|apply dX rfl|apply Da rfl rfl|apply Db rfl rfl qN);(focus ((try intro hg);first|exact qM));constructor)|refine qP ?_)
  refine ret2 rfl (.inl rfl) rfl (.inl rfl) ?_
  rw[←he]
end Go.Proofs.YtcdhlofhhcgohaaGreat
namespace Go.Proofs.YtcdhlofhhcgohaaGreat
open Go.RowKit
def ixZ (p:Int) (l:List Int):Int:=match ixI p l with|some k=>(k:Int)|none => -1
theorem ixI_skip {p:Int}:∀ {l:List Int} {k:Nat},(∀ j,j<k→l[j]? ≠ some p)→l[k]? = some p→ixI p l=some k
 | [],k,_,h=>by simp at h
 | x::r,0,_,h=>by
  simp at h
  unfold ixI
  rw[if_pos h]
 | x::r,k+1,hn,h=>by
  have h0:x≠p:=fun e=>hn 0 (by omega) (by simp[e])
  rw[List.getElem?_cons_succ]at h
  have:=ixI_skip (k:=k) (fun j hj=>by have:=hn (j+1) (by omega);rwa[List.getElem?_cons_succ]at this) h
  unfold ixI
  rw[if_neg h0,this];rfl
theorem ixI_no {p:Int}:∀ {l:List Int},(∀ j,j<l.length→l[j]? ≠ some p)→ixI p l=none
 | [],_=>rfl
 | x::r,hn=>by
  have h0:x≠p:=fun e=>hn 0 (by simp) (by simp[e])
  have:=ixI_no (l:=r) (fun j hj=>by have:=hn (j+1) (by simp;omega);rwa[List.getElem?_cons_succ]at this)
  unfold ixI
  rw[if_neg h0,this];rfl
attribute [local irreducible] SStep DW DWin DOps thenQ inBlk loopQ retQ retQG FnF FnG FnI Wk IntKind.wrap IntKind.andI IntKind.orI IntKind.xorI IntKind.andNotI IntKind.shlI IntKind.shrI portsOf
theorem slices_Equal (l:List Int):FnF Tryz.prog 93 [.slice (l.map intV1),.slice (l.map intV1)] (.bool true):=by
 refine fnF_of Tryz.func93 rfl rfl rfl ?_
 simp only[envOf]
 refine DW_len 0 rfl (fun hlen=>?_)
 have hml:(l.map intV1).length=l.length:=by simp
 repeat' (first|refine qU ?_|refine qW ?_|((first|apply dX rfl|apply Da rfl rfl|apply Db rfl rfl qN);(focus ((try intro hg);first|exact qMo));constructor)|refine qP ?_)
 refine DW_loop (fun k:Nat=>⟨[(0,.dat false (.slice (l.map intV1))),(1,.dat false (.slice (l.map intV1))),(12,.dat true (.int .i64 (l.map intV1).length)),(13,.dat true (.int .i64 k))],[],26⟩)
  (fun k=>k≤l.length) (fun k=>l.length-k) 0 (Nat.zero_le _) (Wk_g some rfl rfl kq) (fun k hk=>?_)
 by_cases hlt:k<l.length
 ·have hx:l[(k:Int).toNat]? = some l[k]:=by simp[hlt]
  repeat' (first|refine qU ?_|refine qW ?_|((first|apply dX rfl|apply Da rfl rfl|apply Db rfl rfl qN);(focus ((try intro hg);first|exact S_ixM rfl rfl (by omega) hx|exact qMo));constructor)|refine qP ?_)
  exact loop_again (k+1) hlt (by omega) (Wk_g some rfl rfl kq)
 ·repeat' (first|refine qU ?_|refine qW ?_|((first|apply dX rfl|apply Da rfl rfl|apply Db rfl rfl qN);(focus ((try intro hg);first|exact qMo));constructor)|refine qP ?_)
  refine ret1 rfl qF ?_
  rfl
theorem slices_Index (l:List Int) (p:Int):FnF Tryz.prog 50 [.slice (l.map intV1),.int .i64 p] (.int .i64 (ixZ p l)):=by
 refine fnF_of Tryz.func50 rfl rfl rfl ?_
 simp only[envOf]
 refine DW_len 0 rfl (fun hlen=>?_)
 have hml:(l.map intV1).length=l.length:=by simp
 repeat' (first|refine qU ?_|refine qW ?_|((first|apply dX rfl|apply Da rfl rfl|apply Db rfl rfl qN);(focus ((try intro hg);first|exact qMo));constructor)|refine qP ?_)
 refine DW_loop (fun k:Nat=>⟨[(0,.dat false (.slice (l.map intV1))),(1,.dat false (.int .i64 p)),(7,.dat true (.int .i64 (l.map intV1).length)),(8,.dat true (.int .i64 k))],[],19⟩)
  (fun k=>k≤l.length∧∀ j,j<k→l[j]? ≠ some p) (fun k=>l.length-k) 0 ⟨Nat.zero_le _,fun j hj=>by omega⟩ (Wk_g some rfl rfl kq) (fun k hR=>?_)
 obtain⟨hk,hno⟩:=hR
 by_cases hlt:k<l.length
 ·have hx:l[(k:Int).toNat]? = some l[k]:=by simp[hlt]
  have hx':l[k]? = some l[k]:=by simp[hlt]
  generalize l[k]=y at hx hx'
  by_cases he:p=y
  ·subst he
   have hix:=ixI_skip hno hx'
   repeat' (first|refine qU ?_|refine qW ?_|((first|apply dX rfl|apply Da rfl rfl|apply Db rfl rfl qN);(focus ((try intro hg);first|exact S_ixM rfl rfl (by omega) hx|exact qMo));constructor)|refine qP ?_)
   refine ret1 rfl qF ?_
   unfold ixZ;rw[hix]
  ·repeat' (first|refine qU ?_|refine qW ?_|((first|apply dX rfl|apply Da rfl rfl|apply Db rfl rfl qN);(focus ((try intro hg);first|exact S_ixM rfl rfl (by omega) hx|exact qMo));constructor)|refine qP ?_)
   exact loop_again (k+1) ⟨hlt,fun j hj e=>by
    by_cases h1:j=k
    ·rw[h1,hx']at e;injection e with e;exact he e.symm
    ·exact hno j (by omega) e⟩ (by omega) (Wk_g some rfl rfl kq)
 ·have hix:=ixI_no (p:=p) (l:=l) (fun j hj=>hno j (by omega))
  repeat' (first|refine qU ?_|refine qW ?_|((first|apply dX rfl|apply Da rfl rfl|apply Db rfl rfl qN);(focus ((try intro hg);first|exact qMo));constructor)|refine qP ?_)
  refine ret1 rfl qF ?_
  unfold ixZ;rw[hix]
set_option maxHeartbeats 4000000 in
theorem talk_right (n:Net) (h:n.good) (t:List (List Mind)) (ht:goodT n t) (h1:1≤t.length):FnF Tryz.prog 51 [.rp n.cells,.rp [.slice (t.map mindsRow)]] (.bool true):=by
 refine fnF_of Tryz.func51 rfl rfl rfl ?_
 simp only[envOf]
 have hmt:(t.map mindsRow).length=t.length:=by simp
 have hmb:(n.bridges.map bridgeV).length=n.bridges.length:=by simp
 have hnb:=h.nb
 have htl:=ht.l
 repeat' (first|refine qU ?_|refine qW ?_|((first|apply dX rfl|apply Da rfl rfl|apply Db rfl rfl qN);(focus ((try intro hg);first|exact qMo));constructor)|refine qP ?_)
 refine DW_loop (fun k:Nat=>⟨[(0,.dat false (.rp n.cells)),(26,.dat false (.slice (t.map mindsRow))),(27,.dat true (.int .i64 (t.map mindsRow).length)),(28,.dat true (.int .i64 k))],[],85⟩)
  (fun k=>k≤t.length) (fun k=>t.length-k) 0 (Nat.zero_le _) (Wk_g some rfl rfl kq) (fun k hk=>?_)
 by_cases hlt:k<t.length
 ·have hx:t[(k:Int).toNat]? = some t[k]:=by simp[hlt]
  obtain⟨hl,hm⟩:=ht.m t[k] (List.getElem_mem hlt)
  generalize t[k]=l at hx hl hm
  have hml:(l.map Mind.cells).length=l.length:=by simp
  repeat' (first|refine qU ?_|refine qW ?_|((first|apply dX rfl|apply Da rfl rfl|apply Db rfl rfl qN);(focus ((try intro hg);first|exact S_ixM rfl rfl (by omega) hx|exact qMo));constructor)|refine qP ?_)
  refine DW_loop (fun j:Nat=>⟨[(0,.dat false (.rp n.cells)),(26,.dat false (.slice (t.map mindsRow))),(27,.dat true (.int .i64 (t.map mindsRow).length)),(28,.dat true (.int .i64 k)),(6,.dat false (.slice (l.map Mind.cells))),(41,.dat true (.int .i64 (l.map Mind.cells).length)),(42,.dat true (.int .i64 j))],[],85⟩)
   (fun j=>j≤l.length) (fun j=>l.length-j) 0 (Nat.zero_le _) (Wk_g some rfl rfl kq) (fun j hj=>?_)
  by_cases hlj:j<l.length
  ·have hy:l[(j:Int).toNat]? = some l[j]:=by simp[hlj]
   have hgm:=hm j l[j] (by simp[hlj])
   generalize l[j]=m at hy hgm
   have hpo:=plan_Ports n h.nl j
   rw[←hgm.p]at hpo
   have heq:=slices_Equal m.ports
   have e1:m.roles.length=m.ports.length:=by rw[hgm.r,hgm.p]
   have e2:m.calm.length=m.ports.length:=by rw[hgm.c,hgm.p]
   have m1:(m.ports.map intV1).length=m.ports.length:=by simp
   have m2:(m.roles.map intV1).length=m.ports.length:=by simp[e1]
   have m3:(m.calm.map intV1).length=m.ports.length:=by simp[e2]
   repeat' (first|refine qU ?_|refine qW ?_|((first|apply dX rfl|apply Da rfl rfl|apply Db rfl rfl qN);(focus ((try intro hg);first|exact S_ixM rfl rfl (by omega) hx|exact S_ixM rfl rfl (by omega) hy|exact S_call hpo rfl|exact S_call heq rfl|exact qMo));constructor)|refine qP ?_)
   exact loop_again (j+1) hlj (by omega) (Wk_g some rfl rfl kq)
  ·repeat' (first|refine qU ?_|refine qW ?_|((first|apply dX rfl|apply Da rfl rfl|apply Db rfl rfl qN);(focus ((try intro hg);first|exact qMo));constructor)|refine qP ?_)
   exact loop_again (k+1) hlt (by omega) (Wk_g some rfl rfl kq)
 ·repeat' (first|refine qU ?_|refine qW ?_|((first|apply dX rfl|apply Da rfl rfl|apply Db rfl rfl qN);(focus ((try intro hg);first|exact qMo));constructor)|refine qP ?_)
  refine ret1 rfl qF ?_
  rfl
set_option maxHeartbeats 4000000 in
theorem talk_Opens (n:Net) (h:n.good) (t:List (List Mind)) (ht:goodT n t) (tree bridge port:Int):FnF Tryz.prog 18 [talkV t,.int .i64 tree,.int .i64 bridge,.int .i64 port] (.bool (opensT t tree bridge port)):=by
 refine fnF_of Tryz.func18 rfl rfl rfl ?_
 simp only[envOf,talkV]
 have hmt:(t.map mindsRow).length=t.length:=by simp
 have hnb:=h.nb
 have htl:=ht.l
 unfold opensT
 by_cases c1:tree<0
 ·rw[if_pos (.inl c1)]
  repeat' (first|refine qU ?_|refine qW ?_|((first|apply dX rfl|apply Da rfl rfl|apply Db rfl rfl qN);(focus ((try intro hg);first|exact qMo));constructor)|refine qP ?_)
  refine ret1 rfl qF ?_
  rfl
 by_cases c2:(t.length:Int)≤tree
 ·rw[if_pos (.inr (.inl c2))]
  repeat' (first|refine qU ?_|refine qW ?_|((first|apply dX rfl|apply Da rfl rfl|apply Db rfl rfl qN);(focus ((try intro hg);first|exact qMo));constructor)|refine qP ?_)
  refine ret1 rfl qF ?_
  rfl
 by_cases c3:bridge<0
 ·rw[if_pos (.inr (.inr c3))]
  repeat' (first|refine qU ?_|refine qW ?_|((first|apply dX rfl|apply Da rfl rfl|apply Db rfl rfl qN);(focus ((try intro hg);first|exact qMo));constructor)|refine qP ?_)
  refine ret1 rfl qF ?_
  rfl
 rw[if_neg (by omega)]
 have hxl:tree.toNat<t.length:=by omega
 have hx:t[tree.toNat]? = some t[tree.toNat]:=by simp[hxl]
 obtain⟨hl,hm⟩:=ht.m t[tree.toNat] (List.getElem_mem hxl)
 rw[hx,Option.getD_some]
 generalize t[tree.toNat]=l at hx hl hm
 have hml:(l.map Mind.cells).length=l.length:=by simp
 dsimp only
 by_cases c4:(l.length:Int)≤bridge
 ·rw[if_pos c4]
  repeat' (first|refine qU ?_|refine qW ?_|((first|apply dX rfl|apply Da rfl rfl|apply Db rfl rfl qN);(focus ((try intro hg);first|exact S_ixM rfl rfl (by omega) hx|exact qMo));constructor)|refine qP ?_)
  refine ret1 rfl qF ?_
  rfl
 rw[if_neg c4]
 have hyl:bridge.toNat<l.length:=by omega
 have hy:l[bridge.toNat]? = some (mAt l bridge.toNat):=mAt_get hyl
 have hgm:=hm bridge.toNat _ hy
 generalize mAt l bridge.toNat=m at hy hgm
 have hix:=slices_Index m.ports port
 have e2:m.calm.length=m.ports.length:=by rw[hgm.c,hgm.p]
 have m3:(m.calm.map intV1).length=m.calm.length:=by simp
 unfold opensM
 unfold ixZ at hix
 cases hq:ixI port m.ports with
 | none =>
  rw[hq]at hix
  dsimp only at hix ⊢
  repeat' (first|refine qU ?_|refine qW ?_|((first|apply dX rfl|apply Da rfl rfl|apply Db rfl rfl qN);(focus ((try intro hg);first|exact S_ixM rfl rfl (by omega) hx|exact S_ixM rfl rfl (by omega) hy|exact S_call hix rfl|exact qMo));constructor)|refine qP ?_)
  refine ret1 rfl qF ?_
  rfl
 | some k =>
  rw[hq]at hix
  dsimp only at hix ⊢
  have hk:=(List.getElem?_eq_some_iff.1 (ixI_some hq)).1
  have hkc:k<m.calm.length:=by omega
  have hz:m.calm[(k:Int).toNat]? = some m.calm[k]:=by simp[hkc]
  have hc:cAt m k=m.calm[k]:=by unfold cAt;simp[hkc]
  rw[hc,decide_eq_true hkc,Bool.true_and]
  generalize m.calm[k]=c at hz ⊢
  repeat' (first|refine qU ?_|refine qW ?_|((first|apply dX rfl|apply Da rfl rfl|apply Db rfl rfl qN);(focus ((try intro hg);first|exact S_ixM rfl rfl (by omega) hx|exact S_ixM rfl rfl (by omega) hy|exact S_call hix rfl|exact S_ixM rfl rfl (by omega) hz|exact qMo));constructor)|refine qP ?_)
  refine ret1 rfl qF ?_
  rfl
end Go.Proofs.YtcdhlofhhcgohaaGreat
