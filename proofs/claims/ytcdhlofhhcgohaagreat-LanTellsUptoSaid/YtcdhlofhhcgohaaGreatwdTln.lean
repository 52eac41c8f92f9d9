/- Contract: talk.On. -/
import Derived.Test.YtcdhlofhhcgohaaGreatwdLnG
import Derived.Test.YtcdhlofhhcgohaaGreatwdPlN
import Derived.Test.YtcdhlofhhcgohaaGreatwdTlc
import Derived.Test.YtcdhlofhhcgohaaGreatwdTlm
namespace Go.Proofs.YtcdhlofhhcgohaaGreat
open Go.RowKit
theorem ztj {C:Cf} {m:Mem} {cs:List V} {v:Value} (h:RdD C m (.aggd (cs.map (.dat false))) v):RdD C m (.dat false (.agg cs)) v:=by
 obtain⟨vs,rfl,hl,hr⟩:=h
 exact Rd.agg cs vs (by simpa using hl) (fun j d c hd hc=>hr j (.dat false d) c (by simp[hd]) hc)
theorem ztk {P:Program} {f:FuncId} {cs:List V} {mk mk':Mem} {r:D} (h:FnM P f ([.agg cs].map (D.dat false)) mk r mk'):FnM P f [.aggd (cs.map (.dat false))] mk r mk' :=
 ⟨h.1,fun C vs hm hl hv=>h.2 C vs hm hl (fun j d v hd hj=>by
  match j,hd with
  | 0,hd=>injection hd with hd;subst hd;exact ztj (hv 0 _ v rfl hj)
  | j+1,hd=>simp at hd)⟩
attribute [local irreducible] nm ix
theorem zpZ {m:Mem} {nb:Nat} (h:(m.all fun p=>Nat.blt p.1 941)=true):∀ g,g∈netK nb→Mem.at ([]:Mem) g=m.at g:=fun g hg=>by
 refine Eq.symm (Classical.byContradiction fun hn=>?_)
 have hm:=at_mem (m:=m) (g:=g) hn
 have h1:=zic (List.all_eq_true.1 h _ hm)
 simp only at h1
 rcases zep hg with rfl|rfl|⟨k,_,rfl⟩
 ·omega
 ·omega
 ·have:=zcZ k;omega
theorem ztl {v:Nat} {n:Net} {M:Mem} {g:Nat} (h:g<941):Mem.at (netM v n++M) g=M.at g:=by
 rw[zaP,if_neg]
 intro hm
 rcases zep (zhr hm)with rfl|rfl|⟨k,_,rfl⟩
 ·omega
 ·omega
 ·have:=zcZ k;omega
theorem zp0 {v:Nat} {n:Net} {M:Mem} {k:Nat} {x:Box} (h:(M.all fun p=>Nat.blt p.1 941)=true):∀ g,Mem.at ((k,x)::(netM v n++M)) g=Mem.at ((k,x)::(M++netM v n)) g:=fun g=>by
 show look Box.gone _ g=look Box.gone _ g
 rw[zai,zai]
 by_cases h1:k=g
 ·rw[if_pos h1,if_pos h1]
 rw[if_neg h1,if_neg h1]
 show Mem.at (netM v n++M) g=Mem.at (M++netM v n) g
 rw[zaP,zaP]
 by_cases h2:g∈M.map (·.1)
 ·have h3:g∉(netM v n).map (·.1):=fun hm=>by
   obtain⟨p,hp,rfl⟩:=List.mem_map.1 h2
   have h4:=zic (List.all_eq_true.1 h p hp)
   rcases zep (zhr hm)with e|e|⟨j,_,e⟩
   ·omega
   ·omega
   ·have:=zcZ j;omega
  rw[if_pos h2,if_neg h3]
 ·rw[if_neg h2]
  split
  ·rfl
  ·rename_i h3
   have e1:M.at g = .gone:=Classical.byContradiction fun hn=>h2 (zdz hn)
   have e2:Mem.at (netM v n) g = .gone:=Classical.byContradiction fun hn=>h3 (zdz hn)
   rw[e1,e2]
theorem znW {P:Program} {c:Code} {Q:Exit→St→Prop} {env:Env} {v num k:Nat} {n:Net} {M:Mem} {x:Box} (h:(M.all fun p=>Nat.blt p.1 941)=true) (kk:DW P c Q ⟨env,(k,x)::(M++netM v n),num⟩):DW P c Q ⟨env,(k,x)::(netM v n++M),num⟩ :=
 ztZ (s':=⟨env,(k,x)::(M++netM v n),num⟩) ⟨rfl,zp0 h,fun _=>.inl rfl⟩ kk
attribute [local irreducible] SStep DW DWin DOps zaG zaE zaJ retQ zaN FnF FnG FnI FnM Wk IntKind.wrap IntKind.andI IntKind.orI IntKind.xorI IntKind.andNotI IntKind.shlI IntKind.shrI famM brCS zaA Net.wrong idsR zaL za3 zah doS
set_option maxHeartbeats 4000000 in
theorem zrI (n:Net) (ht:n.typed) (h0:n.wrong.1≠0) (t:List (List Mind)) (l:List Doing):FnF Tryz.prog 20 [n.v,zaO t,.slice (l.map Doing.cells)] (onV (none,n.wrong)):=by
 refine zal Tryz.func20 rfl rfl rfl ?_
 simp only[zap,zaO]
 have hwr:=zcO n ht.wy
 have h0m:¬n.wrong.1=0:=h0
 clear h0
 generalize n.wrong=f at hwr h0m ⊢
 obtain⟨e,i⟩:=f
 have h0':e≠0:=h0m
 repeat' (first|refine qU ?_|refine qW ?_|((first|apply dX rfl|apply Da rfl rfl|apply Db rfl rfl qN);(focus ((try intro hg);first|exact zac hwr rfl|exact qMo));constructor)|refine qP ?_)
 refine retN (.cellA inferInstance rfl rfl rfl rfl qF (.cellA inferInstance rfl rfl rfl rfl qF (.cellA inferInstance rfl rfl rfl rfl qF .nil))) ?_
 rfl
set_option maxHeartbeats 4000000 in
theorem zm0 (n:Net) (ht:n.typed) (h0:n.wrong.1=0) (l:List Doing):FnF Tryz.prog 20 [n.v,zaO [],.slice (l.map Doing.cells)] (onV (none,(8,0))):=by
 refine zal Tryz.func20 rfl rfl rfl ?_
 simp only[zap,zaO]
 have hwr:=zcO n ht.wy
 rw[Net.wrong_zero h0]at hwr
 have hri:=zlR n
 repeat' (first|refine qU ?_|refine qW ?_|((first|apply dX rfl|apply Da rfl rfl|apply Db rfl rfl qN);(focus ((try intro hg);first|exact zac hwr rfl|exact zac hri rfl|exact qMo));constructor)|refine qP ?_)
 refine retN (.cellA inferInstance rfl rfl rfl rfl qF (.cellA inferInstance rfl rfl rfl rfl qF (.cellA inferInstance rfl rfl rfl rfl qF .nil))) ?_
 rfl
set_option maxHeartbeats 4000000 in
theorem zrJ (n:Net) (ht:n.typed) (h0:n.wrong.1=0) (t:List (List Mind)) (htt:goodT n t) (h1:1≤t.length) (l:List Doing) (hl:30<l.length):FnF Tryz.prog 20 [n.v,zaO t,.slice (l.map Doing.cells)] (onV (none,(5,0))):=by
 refine zal Tryz.func20 rfl rfl rfl ?_
 simp only[zap,zaO]
 have hwr:=zcO n ht.wy
 rw[Net.wrong_zero h0]at hwr
 have hri:=zfH n ((Net.wrong_iff ht).1 h0).1 t htt h1
 have hml:(l.map Doing.cells).length=l.length:=by simp
 repeat' (first|refine qU ?_|refine qW ?_|((first|apply dX rfl|apply Da rfl rfl|apply Db rfl rfl qN);(focus ((try intro hg);first|exact zac hwr rfl|exact zac hri rfl|exact qMo));constructor)|refine qP ?_)
 refine retN (.cellA inferInstance rfl rfl rfl rfl qF (.cellA inferInstance rfl rfl rfl rfl qF (.cellA inferInstance rfl rfl rfl rfl qF .nil))) ?_
 rfl
set_option maxHeartbeats 4000000 in
theorem zrK (n:Net) (ht:n.typed) (h0:n.wrong.1=0) (t:List (List Mind)) (htt:goodT n t) (h1:1≤t.length) (l:List Doing) (hl:l.length≤30) (hne:n.bridges≠[]):FnF Tryz.prog 20 [n.v,zaO t,.slice (l.map Doing.cells)] (onV (zaX 0 l n t)):=by
 refine zal Tryz.func20 rfl rfl rfl ?_
 simp only[zap,zaO]
 have hwr:=zcO n ht.wy
 rw[Net.wrong_zero h0]at hwr
 have h:=((Net.wrong_iff ht).1 h0).1
 have hri:=zfH n h t htt h1
 have hml:(l.map Doing.cells).length=l.length:=by simp
 have how:=ztk (cs:=n.cells) (zrH n h hne)
 have hk1:∀ g,g∉netK n.bridges.length→Mem.at ([]:Mem) g = .gone:=fun _ _=>rfl
 have hown:∀ g,Mem.at (netM 0 n) g ≠ .gone→(Mem.at (netM 0 n) g).mut=true:=fun _=>zrA
 have hkey:∀ g,g∈(netM 0 n).map (·.1)→g∈netK n.bridges.length:=fun _=>zhr
 have hsame:∀ g,Mem.at (netM 0 n) g=Mem.at (netM 0 n++[]) g:=fun _=>by rw[List.append_nil]
 repeat' (first|refine dstep rfl (.plain rfl (zc5 (netK n.bridges.length) (netM 0 n) how rfl (zpZ rfl) hk1 (fun _ _ _ _ h=>by cases h) hown hsame hkey rfl rfl rfl)) ?_|refine zcY 3 (bx := .cells false true [.sl 950 n.bridges.length,.own 941 0 0 n.links.length]) rfl ?_|refine qU ?_|refine qW ?_|((first|apply dX rfl|apply Da rfl rfl|apply Db rfl rfl qN);(focus ((try intro hg);first|exact zac hwr rfl|exact zac hri rfl|exact zbg rfl ((ztl (by decide)).trans rfl) rfl rfl rfl rfl|exact qMo));constructor)|refine qP ?_)
 intro _
 have hokC:=zgv (Nat.le_refl n.bridges.length)
 dsimp only[St.put]
 refine znW rfl ?_
 refine zaZ (zcB zad 1 (env' := [(2,.dat false (.slice (l.map Doing.cells))),(3,.ptr 3 0),(4,.ptr 4 0),(6,.ptr 6 0),(7,.ptr 7 0),(8,.ptr 8 0)]) (pre' := [(3,.cells false true [.sl 950 n.bridges.length,.own 941 0 0 n.links.length]),(4,.cells false true [.dat false (.slice (t.map zae))]),(6,.cells false true [.nil,.nil]),(7,.cells false true [.nil]),(8,.cells false true [.dat true (.int .i64 0),.dat true (.int .i64 0)]),(941,.row 0 false true 6 (n.links.map zar))]) hokC rfl rfl rfl (fun k r hk=>?_) kq kq) ?_
 ·simp (discharger:=decide) only[List.cons_append,List.nil_append,zdd]
  exact za5 zad 1 (pre := [(941,.row 0 false true 6 (n.links.map zar))]) rfl hk
 have hrg:=zfX n (fun b hb=>(h.br b hb).r) h.nb
 have hmi:=zk3 n h t htt
 repeat' (first|refine qU ?_|((first|apply dX rfl|apply Da rfl rfl|apply Db rfl rfl qN);(focus ((try intro hg);first|exact zl3 (netL n.bridges.length) hrg (fun m' hag=>⟨zjy hag rfl rfl rfl (fun k r hk=>za5 zad 1 rfl hk),trivial⟩)|exact zac hmi rfl|exact qM));constructor)|refine qP ?_)
 refine zag (fun q:Nat×(Net×List (List Mind))=>⟨[(2,.dat false (.slice (l.map Doing.cells))),(3,.ptr 3 0),(4,.ptr 4 0),(6,.ptr 6 0),(7,.ptr 7 0),(8,.ptr 8 0),(10,.dat true (.slice ((idsR n.bridges).map zbe))),(39,.dat false (.slice (l.map Doing.cells))),(40,.dat true (.int .i64 (l.map Doing.cells).length)),(41,.dat true (.int .i64 q.1))],famC zad 1 [(3,.cells false true [.sl 950 q.2.1.bridges.length,.own 941 0 0 q.2.1.links.length]),(4,.cells false true [.dat true (.slice (q.2.2.map zae))]),(6,.cells false true [.nil,.nil]),(7,.cells false true [.nil]),(8,.cells false true [.dat true (.int .i64 0),.dat true (.int .i64 0)]),(941,.row 0 false true 6 (q.2.1.links.map zar))] (brCS q.2.1.bridges.length q.2.1.bridges) (zaA q.2.1.bridges.length q.2.1.bridges),93⟩)
  (fun q=>q.1≤l.length∧q.2.1.good∧goodT q.2.1 q.2.2∧Kin n q.2.1∧zaX 0 l n t=zaX q.1 (l.drop q.1) q.2.1 q.2.2) (fun q=>l.length-q.1) (0,(n,t)) ⟨Nat.zero_le _,h,htt,.refl n,rfl⟩
  (by
   refine zcB zad 1 hokC rfl rfl rfl (fun k r hk=>?_) kq kq
   simp (discharger:=decide) only[zdd]
   exact za5 zad 1 rfl hk) (fun q hR=>?_)
 obtain⟨i,m,u⟩:=q
 obtain⟨hi,hg,hgu,hkin,hon⟩:=hR
 simp only at hi hg hgu hkin hon
 dsimp only
 rw[hon]
 have hokC:=zgv (Nat.le_refl m.bridges.length)
 by_cases hlt:i<l.length
 ·have hx:l[(i:Int).toNat]? = some l[i]:=by simp[hlt]
  have hdr:l.drop i=l[i]::l.drop (i+1):=List.drop_eq_getElem_cons hlt
  rw[hdr,zaX]
  generalize l[i]=d at hx hdr
  by_cases hk1:d.kind=1
  ·rw [if_pos hk1]
   by_cases hb:d.n<0∨200<d.n
   ·rw[if_pos hb]
    by_cases hb1:d.n<0
    ·repeat' (first|refine qU ?_|refine qW ?_|((first|apply dX rfl|apply Da rfl rfl|apply Db rfl rfl qN);(focus ((try intro hg);first|exact zaf rfl rfl (by omega) hx|exact qMo));constructor)|refine qP ?_)
     refine retN (.cellA inferInstance rfl rfl rfl rfl qF (.cellA inferInstance rfl rfl rfl rfl qF (.cellA inferInstance rfl rfl rfl rfl qF .nil))) ?_
     rfl
    ·repeat' (first|refine qU ?_|refine qW ?_|((first|apply dX rfl|apply Da rfl rfl|apply Db rfl rfl qN);(focus ((try intro hg);first|exact zaf rfl rfl (by omega) hx|exact qMo));constructor)|refine qP ?_)
     refine retN (.cellA inferInstance rfl rfl rfl rfl qF (.cellA inferInstance rfl rfl rfl rfl qF (.cellA inferInstance rfl rfl rfl rfl qF .nil))) ?_
     rfl
   ·rw [if_neg hb]
    obtain⟨T,hT⟩:∃ T:Nat,d.n=(T:Int):=⟨d.n.toNat,by omega⟩
    rw[hT,Int.toNat_natCast]
    have hen:=zk6 m hg
    rw[hkin.ids]at hen
    repeat' (first|refine qU ?_|refine qW ?_|((first|apply dX rfl|apply Da rfl rfl|apply Db rfl rfl qN);(focus ((try intro hg);first|exact zaf rfl rfl (by omega) hx|exact zl3 (netL m.bridges.length) hen (fun m' hag=>⟨zjy hag rfl rfl rfl (fun k r hk=>za5 zad 1 rfl hk),.asb rfl,trivial⟩)|exact qMo));constructor)|refine qP ?_)
    refine zag (fun k:Nat=>⟨[(2,.dat false (.slice (l.map Doing.cells))),(3,.ptr 3 0),(4,.ptr 4 0),(6,.ptr 6 0),(7,.ptr 7 0),(8,.ptr 8 0),(10,.dat true (.slice ((idsR n.bridges).map zbe))),(39,.dat false (.slice (l.map Doing.cells))),(40,.dat true (.int .i64 (l.map Doing.cells).length)),(41,.dat true (.int .i64 i)),(13,.dat true (.slice (((List.range m.bridges.length).map (zaL m)).map zdK))),(73,.dat false (.int .i64 d.n)),(74,.dat true (.int .i64 k))],famC zad 1 [(3,.cells false true [.sl 950 m.bridges.length,.own 941 0 0 m.links.length]),(4,.cells false true [.dat true (.slice ((zc1 m u k).map zae))]),(6,.cells false true [.nil,.nil]),(7,.cells false true [.nil]),(8,.cells false true [.dat true (.int .i64 0),.dat true (.int .i64 0)]),(941,.row 0 false true 6 (m.links.map zar))] (brCS m.bridges.length m.bridges) (zaA m.bridges.length m.bridges),93⟩)
     (fun k=>k≤T) (fun k=>T-k) 0 (Nat.zero_le _)
     (by
      refine zcB zad 1 hokC rfl rfl rfl (fun k r hk=>?_) kq kq
      exact za5 zad 1 rfl hk) (fun k hk=>?_)
    by_cases hlk:k<T
    ·have htk:=zk5 m hg (zc1 m u k) (zbE hgu k)
     repeat' (first|refine qU ?_|refine qW ?_|((first|apply dX rfl|apply Da rfl rfl|apply Db rfl rfl qN);(focus ((try intro hg);first|exact zl3 (netL m.bridges.length) htk (fun m' hag=>⟨zjy hag rfl rfl rfl (fun k r hk=>za5 zad 1 rfl hk),.asb rfl,.asb rfl,trivial⟩)|exact qMo));constructor)|refine qP ?_)
     refine zaa (k+1) hlk (by omega) ?_
     refine zcB zad 1 hokC rfl rfl rfl (fun k r hk=>?_) kq kq
     simp (discharger:=decide) only[zdd]
     exact za5 zad 1 rfl hk
    ·have hkT:k=T:=by omega
     subst hkT
     repeat' (first|refine qU ?_|refine qW ?_|((first|apply dX rfl|apply Da rfl rfl|apply Db rfl rfl qN);(focus ((try intro hg);first|exact qMo));constructor)|refine qP ?_)
     refine zaa (i+1,(m,zc1 m u k)) ⟨hlt,hg,zbE hgu k,hkin,rfl⟩ (by simp only;omega) ?_
     refine zcB zad 1 hokC rfl rfl rfl (fun k r hk=>?_) kq kq
     exact za5 zad 1 rfl hk
  ·rw [if_neg hk1]
   have hsb:=zrD (pre := [(3,.cells false true [.sl 950 m.bridges.length,.own 941 0 0 m.links.length]),(4,.cells false true [.dat true (.slice (u.map zae))]),(6,.cells false true [.nil,.nil]),(7,.cells false true [.nil]),(8,.cells false true [.dat true (.int .i64 0),.dat true (.int .i64 0)]),(941,.row 0 false true 6 (m.links.map zar))]) (n:=m) rfl rfl rfl
   have hF:=zti m.bridges
   have hgd:=zjh hg d
   have hkd:=zjg m d
   have hcl:=zjx (nb:=m.bridges.length) (v:=0) (ls:=m.links) hF
   have hou:=zgw (nb:=m.bridges.length) (v:=0) (ls:=m.links) hF
   have hmu:=zgx (nb:=m.bridges.length) (v:=0) (ls:=m.links) hF
   by_cases hq:d.kind=2∨d.kind=3∨d.kind=4
   ·by_cases hn0:d.n<0∨(m.links.length:Int)≤d.n
    ·have hc:=ztd m.bridges.length 0 m.links (brCS m.bridges.length m.bridges) ((960,.gone)::famM zad 1 (zaA m.bridges.length m.bridges)) d hq hn0
     rw[zjz hq hn0]
     dsimp only
     rw[if_pos (by decide)]
     repeat' (first|refine dstep rfl (.plain rfl (zc5 (netQ ((List.range m.bridges.length).map nm)) [] hc rfl hsb hou hcl hmu (fun _=>rfl) (fun _ h=>by cases h) rfl rfl rfl)) ?_|refine qU ?_|refine qW ?_|((first|apply dX rfl|apply Da rfl rfl|apply Db rfl rfl qN);(focus ((try intro hg);first|exact zaf rfl rfl (by omega) hx|exact qMo));constructor)|refine qP ?_)
     refine retN (.cellA inferInstance rfl rfl rfl rfl qF (.cellA inferInstance rfl rfl rfl rfl qF (.cellA inferInstance rfl rfl rfl rfl qF .nil))) ?_
     rfl
    ·obtain ⟨A,hA⟩:∃ A:Nat,d.n=(A:Int):=⟨d.n.toNat,by omega⟩
     have hAl:A<m.links.length:=by omega
     have hxl:m.links[A]? = some m.links[A]:=List.getElem?_eq_getElem hAl
     generalize m.links[A]=x at hxl
     by_cases h4:d.kind=4
     ·by_cases hv:d.value<1∨200000<d.value
      ·have hc:=zte m.bridges.length 0 m.links (brCS m.bridges.length m.bridges) ((960,.gone)::famM zad 1 (zaA m.bridges.length m.bridges)) d h4 (by omega) hv
       rw[zmX h4 (by omega) hv]
       dsimp only
       rw[if_pos (by decide)]
       repeat' (first|refine dstep rfl (.plain rfl (zc5 (netQ ((List.range m.bridges.length).map nm)) [] hc rfl hsb hou hcl hmu (fun _=>rfl) (fun _ h=>by cases h) rfl rfl rfl)) ?_|refine qU ?_|refine qW ?_|((first|apply dX rfl|apply Da rfl rfl|apply Db rfl rfl qN);(focus ((try intro hg);first|exact zaf rfl rfl (by omega) hx|exact qMo));constructor)|refine qP ?_)
       refine retN (.cellA inferInstance rfl rfl rfl rfl qF (.cellA inferInstance rfl rfl rfl rfl qF (.cellA inferInstance rfl rfl rfl rfl qF .nil))) ?_
       rfl
      ·have hv':1≤d.value∧d.value≤200000:=by omega
       have hc:=ztc m.bridges.length 0 m.links (brCS m.bridges.length m.bridges) ((960,.gone)::famM zad 1 (zaA m.bridges.length m.bridges)) d h4 A hA x hxl hv'
       have hd:=zmW h4 hA hxl hv'
       rw[hd]at hgd hkd ⊢
       dsimp only at hgd hkd ⊢
       rw[if_neg (by decide)]
       generalize { x with cost:=d.value }=y at hc hgd hkd
       repeat' (first|refine dstep rfl (.plain rfl (zc5 (netQ ((List.range m.bridges.length).map nm)) [(941,.row 0 false true 6 ((m.links.set A y).map zar))] hc rfl hsb hou hcl (zmZ hmu) (fun _=>rfl) (zk1 _) rfl rfl rfl)) ?_|refine qU ?_|refine qW ?_|((first|apply dX rfl|apply Da rfl rfl|apply Db rfl rfl qN);(focus ((try intro hg);first|exact zaf rfl rfl (by omega) hx|exact qMo));constructor)|refine qP ?_)
       (refine zaa (i+1,(⟨m.bridges,m.links.set A y⟩,u)) ⟨hlt,hgd rfl,zcb hkd hgu,hkin.trans hkd,rfl⟩ (by simp only;omega) ?_;dsimp only;rw[List.length_set];refine zcB zad 1 hokC rfl rfl rfl (fun k r hk=>?_) kq kq;dsimp only[St.put,List.cons_append,List.nil_append];simp (discharger:=decide) only[zdd];exact za5 zad 1 rfl hk)
     ·have h23:d.kind=2∨d.kind=3:=by omega
      have hc:=zt3 m.bridges.length 0 m.links (brCS m.bridges.length m.bridges) ((960,.gone)::famM zad 1 (zaA m.bridges.length m.bridges)) d h23 A hA x hxl
      have hd:=zpQ h23 hA hxl
      rw[hd]at hgd hkd ⊢
      dsimp only at hgd hkd ⊢
      rw[if_neg (by decide)]
      generalize { x with up:=decide (d.kind=2) }=y at hc hgd hkd
      repeat' (first|refine dstep rfl (.plain rfl (zc5 (netQ ((List.range m.bridges.length).map nm)) [(941,.row 0 false true 6 ((m.links.set A y).map zar))] hc rfl hsb hou hcl (zmZ hmu) (fun _=>rfl) (zk1 _) rfl rfl rfl)) ?_|refine qU ?_|refine qW ?_|((first|apply dX rfl|apply Da rfl rfl|apply Db rfl rfl qN);(focus ((try intro hg);first|exact zaf rfl rfl (by omega) hx|exact qMo));constructor)|refine qP ?_)
      (refine zaa (i+1,(⟨m.bridges,m.links.set A y⟩,u)) ⟨hlt,hgd rfl,zcb hkd hgu,hkin.trans hkd,rfl⟩ (by simp only;omega) ?_;dsimp only;rw[List.length_set];refine zcB zad 1 hokC rfl rfl rfl (fun k r hk=>?_) kq kq;dsimp only[St.put,List.cons_append,List.nil_append];simp (discharger:=decide) only[zdd];exact za5 zad 1 rfl hk)
   ·by_cases h5:d.kind=5
    ·by_cases hn0:d.n<0∨(m.bridges.length:Int)≤d.n
     ·have hc:=zkZ m.bridges.length 0 m.links (brCS m.bridges.length m.bridges) .gone (famM zad 1 (zaA m.bridges.length m.bridges)) ((List.range m.bridges.length).map nm) hF d h5 6 (znS _ _ _ _ _ d hn0)
      rw[zht h5 hn0]
      dsimp only
      rw[if_pos (by decide)]
      repeat' (first|refine dstep rfl (.plain rfl (zc5 (netQ ((List.range m.bridges.length).map nm)) [] hc rfl hsb hou hcl hmu (fun _=>rfl) (fun _ h=>by cases h) rfl rfl rfl)) ?_|refine qU ?_|refine qW ?_|((first|apply dX rfl|apply Da rfl rfl|apply Db rfl rfl qN);(focus ((try intro hg);first|exact zaf rfl rfl (by omega) hx|exact qMo));constructor)|refine qP ?_)
      refine retN (.cellA inferInstance rfl rfl rfl rfl qF (.cellA inferInstance rfl rfl rfl rfl qF (.cellA inferInstance rfl rfl rfl rfl qF .nil))) ?_
      rfl
     ·by_cases hv:d.tree<0∨15<d.tree∨d.value<0∨61440<d.value∨d.value.tmod 4096≠0
      ·have hc:=zkZ m.bridges.length 0 m.links (brCS m.bridges.length m.bridges) .gone (famM zad 1 (zaA m.bridges.length m.bridges)) ((List.range m.bridges.length).map nm) hF d h5 3 (zpL _ _ _ _ _ d (by omega) hv)
       rw[zmY h5 (by omega) hv]
       dsimp only
       rw[if_pos (by decide)]
       repeat' (first|refine dstep rfl (.plain rfl (zc5 (netQ ((List.range m.bridges.length).map nm)) [] hc rfl hsb hou hcl hmu (fun _=>rfl) (fun _ h=>by cases h) rfl rfl rfl)) ?_|refine qU ?_|refine qW ?_|((first|apply dX rfl|apply Da rfl rfl|apply Db rfl rfl qN);(focus ((try intro hg);first|exact zaf rfl rfl (by omega) hx|exact qMo));constructor)|refine qP ?_)
       refine retN (.cellA inferInstance rfl rfl rfl rfl qF (.cellA inferInstance rfl rfl rfl rfl qF (.cellA inferInstance rfl rfl rfl rfl qF .nil))) ?_
       rfl
      ·obtain ⟨A,hA⟩:∃ A:Nat,d.n=(A:Int):=⟨d.n.toNat,by omega⟩
       have hAl:A<m.bridges.length:=by omega
       have hb:m.bridges[A]? = some m.bridges[A]:=List.getElem?_eq_getElem hAl
       have hbo:=hg.br m.bridges[A] (List.getElem_mem hAl)
       generalize m.bridges[A]=b at hb hbo
       obtain⟨tr,htr⟩:∃ tr:Nat,d.tree=(tr:Int):=⟨d.tree.toNat,by omega⟩
       have hvv:tr≤15∧0≤d.value∧d.value≤61440∧d.value.tmod 4096=0:=by omega
       have hd:=zk0 h5 hA hb htr hvv
       rw[hd]at hgd hkd ⊢
       dsimp only at hgd hkd ⊢
       rw[if_neg (by decide)]
       have hF':=zrF hb
       have hc:=zpO m.bridges.length 0 m.links _ _ _ _ hF' d h5 _ _ _ _ (zpN m.bridges.length 0 m.links (brCS m.bridges.length m.bridges) (zrE A (zaA m.bridges.length m.bridges)) d A hA hAl tr htr hvv b.prios hbo.n (zcK _ _))
       have hcl':=zjx (nb:=m.bridges.length) (v:=0) (ls:=m.links) hF'
       have hou':=zgw (nb:=m.bridges.length) (v:=0) (ls:=m.links) hF'
       have hmu':=zgx (nb:=m.bridges.length) (v:=0) (ls:=m.links) hF'
       have hpr:(zaA m.bridges.length m.bridges)[A]? = some b.prios:=by rw[zcq hAl,hb];rfl
       have hXl:=zc6 (Nat.le_refl m.bridges.length)
       refine zl2 zad 1 (env' := [(2,.dat false (.slice (l.map Doing.cells))),(3,.ptr 3 0),(4,.ptr 4 0),(6,.ptr 6 0),(7,.ptr 7 0),(8,.ptr 8 0),(10,.dat true (.slice ((idsR n.bridges).map zbe))),(39,.dat false (.slice (l.map Doing.cells))),(40,.dat true (.int .i64 (l.map Doing.cells).length)),(41,.dat true (.int .i64 i))]) (pre' := [(3,.cells false true [.sl 950 m.bridges.length,.own 941 0 0 m.links.length]),(4,.cells false true [.dat true (.slice (u.map zae))]),(6,.cells false true [.nil,.nil]),(7,.cells false true [.nil]),(8,.cells false true [.dat true (.int .i64 0),.dat true (.int .i64 0)]),(941,.row 0 false true 6 (m.links.map zar))]) A (A*5+1) hpr hokC (zjt hAl hb) (fun j len h=>zl4 j len h) rfl rfl rfl (fun T=>by(repeat' (first|exact trivial|rfl|exact zas _|exact⟨_,rfl,.inl rfl⟩|exact⟨_,rfl,.inr (.inl rfl)⟩|exact⟨_,rfl,.inr (.inr rfl)⟩|refine⟨_,_,rfl,rfl,?_⟩|exact⟨_,rfl,rfl⟩|exact⟨_,_,_,_,rfl,rfl,rfl⟩|exact⟨_,rfl⟩|exact⟨_,_,rfl⟩|apply And.intro))) (fun T=>by(repeat' (first|exact trivial|rfl|exact zas _|exact⟨_,rfl,.inl rfl⟩|exact⟨_,rfl,.inr (.inl rfl)⟩|exact⟨_,rfl,.inr (.inr rfl)⟩|refine⟨_,_,rfl,rfl,?_⟩|exact⟨_,rfl,rfl⟩|exact⟨_,_,_,_,rfl,rfl,rfl⟩|exact⟨_,rfl⟩|exact⟨_,_,rfl⟩|apply And.intro))) (fun T hT0 hT=>?_)
       have hsb':∀ g,g∈netQ (znU m.bridges.length A)→Mem.at (memQ m.bridges.length 0 m.links ((brCS m.bridges.length m.bridges).set (A*5+1) (.own 960 0 0 b.prios.length)) (.row 0 false true 1 (b.prios.map zad)) (zrE A (zaA m.bridges.length m.bridges))) g=Mem.at ([(3,.cells false true [.sl 950 m.bridges.length,.own 941 0 0 m.links.length]),(4,.cells false true [.dat true (.slice (u.map zae))]),(6,.cells false true [.nil,.nil]),(7,.cells false true [.nil]),(8,.cells false true [.dat true (.int .i64 0),.dat true (.int .i64 0)]),(941,.row 0 false true 6 (m.links.map zar))]++(960,.row 0 false true 1 (b.prios.map zad))::(950,.cells false true ((brCS m.bridges.length m.bridges).set (A*5+1) (.own 960 0 0 b.prios.length)))::T) g:=fun g hgk=>by
        rcases zpR hgk with rfl|rfl|rfl|rfl|⟨k,hk,hkA,rfl⟩
        ·rfl
        ·rfl
        ·rfl
        ·rfl
        ·have hkx:(zaA m.bridges.length m.bridges)[k]? = some m.bridges[k].prios:=by rw[zcq hk,List.getElem?_eq_getElem hk];rfl
         have:=zcZ k
         rw[zhs,if_neg (by omega),if_neg (by omega),if_neg (by omega),if_neg (by omega),zjB,if_neg (fun e=>hkA (zkr e).symm),zcu zad 1 hkx]
         simp (discharger:=decide) only[List.cons_append,List.nil_append,zdd]
         exact(hT k _ hkA hkx).symm
       dsimp only[List.cons_append,List.nil_append]at hsb' ⊢
       repeat' (first|refine dstep rfl (.plain rfl (zc5 (netQ (znU m.bridges.length A)) [(960,.row (tr+1-b.prios.length) false true 1 ((za9 b.prios tr d.value).map zad)),(950,.cells false true ((brCS m.bridges.length m.bridges).set (A*5+1) (.own 960 (tr+1-b.prios.length) 0 (za9 b.prios tr d.value).length)))] hc rfl hsb' hou' hcl' (zmV hmu') (fun _=>rfl) (zkY _) rfl rfl rfl)) ?_|refine qU ?_|refine qW ?_|((first|apply dX rfl|apply Da rfl rfl|apply Db rfl rfl qN);(focus ((try intro hg);first|exact zaf rfl rfl (by omega) hx|exact qMo));constructor)|refine qP ?_)
       have hput:=zrs (k:=m.bridges.length) (ps:=za9 b.prios tr d.value) hAl hb (.own 960 (tr+1-b.prios.length) 0 (za9 b.prios tr d.value).length)
       have hset:=zl7 (bs:=m.bridges) (b:=b) (ps:=za9 b.prios tr d.value) hAl
       have hb2:(m.bridges.set A { b with prios:=za9 b.prios tr d.value })[A]? = some { b with prios:=za9 b.prios tr d.value }:=by rw[List.getElem?_set_self hAl]
       have hok2:=zgv (k:=m.bridges.length) (bs:=m.bridges.set A { b with prios:=za9 b.prios tr d.value }) (by rw[List.length_set];exact Nat.le_refl _)
       have how2:=zjt hAl hb2
       rw[hset]at hok2
       refine zaa (i+1,(⟨m.bridges.set A { b with prios:=za9 b.prios tr d.value },m.links⟩,u)) ⟨hlt,hgd rfl,zcb hkd hgu,hkin.trans hkd,rfl⟩ (by simp only;omega) ?_
       dsimp only
       rw[List.length_set,hset]
       refine znO zad 1 A (A*5+1) (by rw[hXl];exact hAl) hok2 how2 (fun j len h=>zl4 j len h) rfl rfl rfl rfl hput.symm (fun k r hkA hk=>?_) kq kq
       dsimp only[St.put,List.cons_append,List.nil_append]
       simp (discharger:=decide) only[zdd]
       exact hT k r hkA hk
    ·have hc:=ztf m.bridges.length 0 m.links (brCS m.bridges.length m.bridges) ((960,.gone)::famM zad 1 (zaA m.bridges.length m.bridges)) d (by omega) (by omega) (by omega) h5
     rw[zjA (by omega) (by omega) (by omega) h5]
     dsimp only
     rw[if_pos (by decide)]
     repeat' (first|refine dstep rfl (.plain rfl (zc5 (netQ ((List.range m.bridges.length).map nm)) [] hc rfl hsb hou hcl hmu (fun _=>rfl) (fun _ h=>by cases h) rfl rfl rfl)) ?_|refine qU ?_|refine qW ?_|((first|apply dX rfl|apply Da rfl rfl|apply Db rfl rfl qN);(focus ((try intro hg);first|exact zaf rfl rfl (by omega) hx|exact qMo));constructor)|refine qP ?_)
     refine retN (.cellA inferInstance rfl rfl rfl rfl qF (.cellA inferInstance rfl rfl rfl rfl qF (.cellA inferInstance rfl rfl rfl rfl qF .nil))) ?_
     rfl
 ·have hdr:l.drop i=[]:=List.drop_eq_nil_of_le (by omega)
  rw[hdr,zaX]
  refine zpP (pre := [(3,.cells false true [.sl 950 m.bridges.length,.own 941 0 0 m.links.length]),(4,.cells false true [.dat true (.slice (u.map zae))]),(6,.cells false true [.nil,.nil]),(7,.cells false true [.nil]),(8,.cells false true [.dat true (.int .i64 0),.dat true (.int .i64 0)])]) (n:=m) rfl rfl rfl (fun Z=>?_)
  repeat' (first|refine qU ?_|refine qW ?_|((first|apply dX rfl|apply Da rfl rfl|apply Db rfl rfl qN);(focus ((try intro hg);first|exact qMo));constructor)|refine qP ?_)
  refine retN (.cellA inferInstance rfl rfl rfl rfl qF (.cellA inferInstance rfl rfl rfl rfl qF (.cellA inferInstance rfl rfl rfl rfl qF .nil))) ?_
  rfl
end Go.Proofs.YtcdhlofhhcgohaaGreat
