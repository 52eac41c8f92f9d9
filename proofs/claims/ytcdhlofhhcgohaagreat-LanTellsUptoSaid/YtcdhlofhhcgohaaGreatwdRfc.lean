/- Contract: the document's Choose. -/
import Derived.Test.YtcdhlofhhcgohaaGreatwbApl
import Derived.Test.YtcdhlofhhcgohaaGreatwcSh
import Derived.Test.YtcdhlofhhcgohaaGreatwcPlV
import Derived.Test.YtcdhlofhhcgohaaGreatwcTlo
import Derived.Test.YtcdhlofhhcgohaaGreatwbFrm
import Derived.Test.YtcdhlofhhcgohaaGreatwcPlO
namespace Go.Proofs.YtcdhlofhhcgohaaGreat
open Go.RowKit
theorem ztr {n:Net} {t:List (List Mind)} {vid:Int} (I:Come→Prop) (J:OutF→Prop) (B:List (List Ent)→Prop)
  (step:∀ bs c,B bs→I c→(zbP n t vid bs c).2.2=0→(∀ c'∈zbw n c.br (zbP n t vid bs c).1,I c')∧(∀ s∈zcG c.br (zbP n t vid bs c).1,J s)∧B (bs.set c.br.toNat (zbP n t vid bs c).2.1)) :
  ∀ (k:Nat) (todo:List Come) (seen:List OutF) (bs:List (List Ent)),(∀ c∈todo,I c)→(∀ s∈seen,J s)→B bs→(goS n t vid k todo seen bs).ok=true→(∀ s∈(goS n t vid k todo seen bs).seen,J s)∧B (goS n t vid k todo seen bs).books
 | 0,[],seen,bs,_,h2,h3,_=>⟨h2,h3⟩
 | k+1,[],seen,bs,_,h2,h3,_=>⟨h2,h3⟩
 | 0,_::_,seen,bs,_,_,_,h=>by cases h
 | k+1,c::r,seen,bs,h1,h2,h3,h=>by
  rw[goS]at h ⊢
  split at h
  ·cases h
  ·rename_i he
   rw[if_neg he]
   obtain⟨s1,s2,s3⟩:=step bs c h3 (h1 c (by simp)) (Decidable.not_not.1 he)
   refine ztr I J B step k _ _ _ (fun x hx=>?_) (fun x hx=>?_) s3 h
   ·rcases List.mem_append.1 hx with hx|hx
    ·exact h1 x (by simp[hx])
    ·exact s1 x hx
   ·rcases List.mem_append.1 hx with hx|hx
    ·exact h2 x hx
    ·exact s2 x hx
theorem mem_seen {b:Int} {outs:List OutF} {s:OutF} (h:s∈zcG b outs):∃ o∈outs,o.1=0∧s=(b,o.2):=by
 unfold zcG at h
 obtain⟨o,ho,h⟩:=List.mem_filterMap.1 h
 split at h
 ·rename_i h0
  injection h with h
  exact⟨o,ho,h0,h.symm⟩
 ·cases h
end Go.Proofs.YtcdhlofhhcgohaaGreat
namespace Go.Proofs.YtcdhlofhhcgohaaGreat
open Go.RowKit
attribute [local irreducible] SStep DW DWin DOps zaG zaE zaJ retQ zaN FnF FnG FnI Wk IntKind.wrap IntKind.andI IntKind.orI IntKind.xorI IntKind.andNotI IntKind.shlI IntKind.shrI
theorem zfl (l:List Int):FnF Tryz.prog 49 [.slice (l.map zad),.slice (l.map zad)] (.bool true):=by
 refine zal Tryz.func49 rfl rfl rfl ?_
 simp only[zap]
 refine zbY 0 rfl (fun hlen=>?_)
 have hml:(l.map zad).length=l.length:=by simp
 repeat' (first|refine qU ?_|refine qW ?_|((first|apply dX rfl|apply Da rfl rfl|apply Db rfl rfl qN);(focus ((try intro hg);first|exact qMo));constructor)|refine qP ?_)
 refine zag (fun k:Nat=>⟨[(0,.dat false (.slice (l.map zad))),(1,.dat false (.slice (l.map zad))),(12,.dat true (.int .i64 (l.map zad).length)),(13,.dat true (.int .i64 k))],[],26⟩)
  (fun k=>k≤l.length) (fun k=>l.length-k) 0 (Nat.zero_le _) (Wk_g some rfl rfl kq) (fun k hk=>?_)
 by_cases hlt:k<l.length
 ·have hx:l[(k:Int).toNat]? = some l[k]:=by simp[hlt]
  repeat' (first|refine qU ?_|refine qW ?_|((first|apply dX rfl|apply Da rfl rfl|apply Db rfl rfl qN);(focus ((try intro hg);first|exact zaf rfl rfl (by omega) hx|exact qMo));constructor)|refine qP ?_)
  exact zaa (k+1) hlt (by omega) (Wk_g some rfl rfl kq)
 ·repeat' (first|refine qU ?_|refine qW ?_|((first|apply dX rfl|apply Da rfl rfl|apply Db rfl rfl qN);(focus ((try intro hg);first|exact qMo));constructor)|refine qP ?_)
  refine ret1 rfl qF ?_
  rfl
set_option maxHeartbeats 4000000 in
theorem zhC (t:List (List Mind)) (hb:t.length≤4) (hm:∀ l∈t,l.length≤12):FnF Tryz.prog 14 [zaO t,zaO t] (.bool true):=by
 refine zal Tryz.func14 rfl rfl rfl ?_
 simp only[zap,zaO]
 have hmt:(t.map zae).length=t.length:=by simp
 repeat' (first|refine qU ?_|refine qW ?_|((first|apply dX rfl|apply Da rfl rfl|apply Db rfl rfl qN);(focus ((try intro hg);first|exact qMo));constructor)|refine qP ?_)
 refine zag (fun k:Nat=>⟨[(2,.ptr 2 0),(3,.ptr 3 0),(18,.dat true (.int .i64 (t.map zae).length)),(19,.dat true (.int .i64 k))],[(2,.cells false true [.dat false (.slice (t.map zae))]),(3,.cells false true [.dat false (.slice (t.map zae))])],105⟩)
  (fun k=>k≤t.length) (fun k=>t.length-k) 0 (Nat.zero_le _) (Wk_g some rfl rfl kq) (fun k hk=>?_)
 by_cases hlt:k<t.length
 ·have hx:t[(k:Int).toNat]? = some t[k]:=by simp[hlt]
  have hl:=hm t[k] (List.getElem_mem hlt)
  generalize t[k]=l at hx hl
  have hml:(l.map Mind.cells).length=l.length:=by simp
  repeat' (first|refine qU ?_|refine qW ?_|((first|apply dX rfl|apply Da rfl rfl|apply Db rfl rfl qN);(focus ((try intro hg);first|exact zaf rfl rfl (by omega) hx|exact qMo));constructor)|refine qP ?_)
  refine zag (fun j:Nat=>⟨[(2,.ptr 2 0),(3,.ptr 3 0),(18,.dat true (.int .i64 (t.map zae).length)),(19,.dat true (.int .i64 k)),(5,.dat true (.int .i64 k)),(40,.dat true (.int .i64 (l.map Mind.cells).length)),(41,.dat true (.int .i64 j))],[(2,.cells false true [.dat false (.slice (t.map zae))]),(3,.cells false true [.dat false (.slice (t.map zae))])],105⟩)
   (fun j=>j≤l.length) (fun j=>l.length-j) 0 (Nat.zero_le _) (Wk_g some rfl rfl kq) (fun j hj=>?_)
  by_cases hlj:j<l.length
  ·have hy:l[(j:Int).toNat]? = some l[j]:=by simp[hlj]
   generalize l[j]=m at hy
   obtain⟨v,age,rp,ps,rs,cs⟩:=m
   have h1:=zfl ps
   have h2:=zfl rs
   have h3:=zfl cs
   repeat' (first|refine qU ?_|refine qW ?_|((first|apply dX rfl|apply Da rfl rfl|apply Db rfl rfl qN);(focus ((try intro hg);first|exact zaf rfl rfl (by omega) hx|exact zaf rfl rfl (by omega) hy|exact zab (zdU rfl rfl rfl rfl (zqa v)) rfl|exact zac h1 rfl|exact zac h2 rfl|exact zac h3 rfl|exact qMo));constructor)|refine qP ?_)
   exact zaa (j+1) hlj (by omega) (Wk_g some rfl rfl kq)
  ·repeat' (first|refine qU ?_|refine qW ?_|((first|apply dX rfl|apply Da rfl rfl|apply Db rfl rfl qN);(focus ((try intro hg);first|exact qMo));constructor)|refine qP ?_)
   exact zaa (k+1) hlt (by omega) (Wk_g some rfl rfl kq)
 ·repeat' (first|refine qU ?_|refine qW ?_|((first|apply dX rfl|apply Da rfl rfl|apply Db rfl rfl qN);(focus ((try intro hg);first|exact qMo));constructor)|refine qP ?_)
  refine ret1 rfl qF ?_
  rfl
theorem zrT (w:Way):eqL (wayV w) (wayV w)=some true:=by simp[wayV,eqL,V.eq1]
theorem zqg (l:Link):eqL (zar l) (zar l)=some true:=by simp[zar,eqL,V.eq1]
set_option maxHeartbeats 4000000 in
theorem zf5 (n:Net) (hnb:n.bridges.length≤12) (hnl:n.links.length≤40) (hw:∀ b∈n.bridges,b.region.ways.length≤9223372036854775807):FnF Tryz.prog 17 [n.v,n.v] (.bool true):=by
 refine zal Tryz.func17 rfl rfl rfl ?_
 simp only[zap]
 have hmb:(n.bridges.map zaj).length=n.bridges.length:=by simp
 have hml:(n.links.map zar).length=n.links.length:=by simp
 repeat' (first|refine qU ?_|refine qW ?_|((first|apply dX rfl|apply Da rfl rfl|apply Db rfl rfl qN);(focus ((try intro hg);first|exact qMo));constructor)|refine qP ?_)
 refine zag (fun k:Nat=>⟨[(2,.ptr 2 0),(3,.ptr 3 0),(28,.dat true (.int .i64 (n.bridges.map zaj).length)),(29,.dat true (.int .i64 k))],[(2,.cells false true (n.cells.map (.dat false))),(3,.cells false true (n.cells.map (.dat false)))],124⟩)
  (fun k=>k≤n.bridges.length) (fun k=>n.bridges.length-k) 0 (Nat.zero_le _) (Wk_g some rfl rfl kq) (fun k hk=>?_)
 by_cases hlt:k<n.bridges.length
 ·have hx:n.bridges[(k:Int).toNat]? = some n.bridges[k]:=by simp[hlt]
  have hwb:=hw n.bridges[k] (List.getElem_mem hlt)
  generalize n.bridges[k]=b at hx hwb
  have h1:=zfl b.prios
  have hmw:(b.region.ways.map wayV).length=b.region.ways.length:=by simp
  repeat' (first|refine qU ?_|refine qW ?_|((first|apply dX rfl|apply Da rfl rfl|apply Db rfl rfl qN);(focus ((try intro hg);first|exact zaf rfl rfl (by omega) hx|exact zac h1 rfl|exact zab (zr5 rfl rfl) (decide_eq_false (fun h=>h rfl))|exact qMo));constructor)|refine qP ?_)
  refine zag (fun j:Nat=>⟨[(2,.ptr 2 0),(3,.ptr 3 0),(28,.dat true (.int .i64 (n.bridges.map zaj).length)),(29,.dat true (.int .i64 k)),(6,.ptr 6 0),(7,.ptr 7 0),(87,.dat true (.int .i64 (b.region.ways.map wayV).length)),(88,.dat true (.int .i64 j))],[(2,.cells false true (n.cells.map (.dat false))),(3,.cells false true (n.cells.map (.dat false))),(6,.cells false true ((zaj b).map (.dat false))),(7,.cells false true ((zaj b).map (.dat false)))],124⟩)
   (fun j=>j≤b.region.ways.length) (fun j=>b.region.ways.length-j) 0 (Nat.zero_le _) (Wk_g some rfl rfl kq) (fun j hj=>?_)
  by_cases hlj:j<b.region.ways.length
  ·have hy:b.region.ways[(j:Int).toNat]? = some b.region.ways[j]:=by simp[hlj]
   generalize b.region.ways[j]=w at hy
   repeat' (first|refine qU ?_|refine qW ?_|((first|apply dX rfl|apply Da rfl rfl|apply Db rfl rfl qN);(focus ((try intro hg);first|exact zaf rfl rfl (by omega) hy|exact zab (zdU rfl rfl rfl rfl (zrT w)) rfl|exact qMo));constructor)|refine qP ?_)
   exact zaa (j+1) hlj (by omega) (Wk_g some rfl rfl kq)
  ·repeat' (first|refine qU ?_|refine qW ?_|((first|apply dX rfl|apply Da rfl rfl|apply Db rfl rfl qN);(focus ((try intro hg);first|exact qMo));constructor)|refine qP ?_)
   exact zaa (k+1) hlt (by omega) (Wk_g some rfl rfl kq)
 ·repeat' (first|refine qU ?_|refine qW ?_|((first|apply dX rfl|apply Da rfl rfl|apply Db rfl rfl qN);(focus ((try intro hg);first|exact qMo));constructor)|refine qP ?_)
  refine zag (fun k:Nat=>⟨[(2,.ptr 2 0),(3,.ptr 3 0),(108,.dat true (.int .i64 (n.links.map zar).length)),(109,.dat true (.int .i64 k))],[(2,.cells false true (n.cells.map (.dat false))),(3,.cells false true (n.cells.map (.dat false)))],124⟩)
   (fun k=>k≤n.links.length) (fun k=>n.links.length-k) 0 (Nat.zero_le _) (Wk_g some rfl rfl kq) (fun k hk=>?_)
  by_cases hll:k<n.links.length
  ·have hy:n.links[(k:Int).toNat]? = some n.links[k]:=by simp[hll]
   generalize n.links[k]=x at hy
   repeat' (first|refine qU ?_|refine qW ?_|((first|apply dX rfl|apply Da rfl rfl|apply Db rfl rfl qN);(focus ((try intro hg);first|exact zaf rfl rfl (by omega) hy|exact zab (zdU rfl rfl rfl rfl (zqg x)) rfl|exact qMo));constructor)|refine qP ?_)
   exact zaa (k+1) hll (by omega) (Wk_g some rfl rfl kq)
  ·repeat' (first|refine qU ?_|refine qW ?_|((first|apply dX rfl|apply Da rfl rfl|apply Db rfl rfl qN);(focus ((try intro hg);first|exact qMo));constructor)|refine qP ?_)
   refine ret1 rfl qF ?_
   rfl
end Go.Proofs.YtcdhlofhhcgohaaGreat
namespace Go.Proofs.YtcdhlofhhcgohaaGreat
open Go.RowKit
theorem zm1 {n:Net} (ht:n.typed) {trees:Int} {l:List Doing} {m:Net} {t:List (List Mind)} (_hp:zdS n trees l=(some (m,t),(0,0))) (hg:n.good) (h0:n.wrong.1=0) (h1:1≤trees) (h2:trees≤4) (hon:zaX 0 l n (start0 n trees.toNat)=(some (m,t),(0,0))) :
  m.good∧m.typed∧m.wrong.1=0∧Kin n m∧goodT m t∧t.length=trees.toNat:=by
 have:=zc4 l 0 n (start0 n trees.toNat) hg (zc3 (by omega)) (m,t) (by rw[hon])
 obtain⟨g1,g2,g3,g4,_⟩:=this
 exact⟨g1,zhy ht g3,zp6 ht h0 g3 g1,g3,g2,by rw[g4];simp[start0]⟩
theorem zrU {n:Net} {t:List (List Mind)} {l:List Doing} (h0:n.wrong.1=0) (hl:l.length≤30):onA n t l=zaX 0 l n t:=by
 unfold onA
 rw[if_neg (by omega),if_neg (by omega)]
attribute [local irreducible] SStep DW DWin DOps zaG zaE zaJ retQ zaN FnF FnG FnI FnM Wk IntKind.wrap IntKind.andI IntKind.orI IntKind.xorI IntKind.andNotI IntKind.shlI IntKind.shrI zdS onA
end Go.Proofs.YtcdhlofhhcgohaaGreat
namespace Go.Proofs.YtcdhlofhhcgohaaGreat
open Go.RowKit
attribute [local irreducible] SStep DW DWS DWin DOps zaG zaE zaJ zd2 endK retQ zaN FnF FnG FnI FnM Wk IntKind.wrap IntKind.andI IntKind.orI IntKind.xorI IntKind.andNotI IntKind.shlI IntKind.shrI
theorem zt6 {s e:Mem} {ρ:Nat→Option Nat} {g g0 ver0 ver lo len sz:Nat} {frz nw:Bool} {xs:List (List V)} (hρ:ρ g=some g0) (hs:s.at g0 = .row ver0 frz nw sz xs) (he:e.at g = .row ver frz nw sz xs):zbX s e ρ (.own g0 ver0 lo len) (.own g ver lo len):=by
 show(match ρ g with
  | some g0'=>∃ r,zbK s (.own g0 ver0 lo len)=some (g0',r)∧zbK e (.own g ver lo len)=some (g,r)
  | none=>(D.own g0 ver0 lo len) = .nil∧∃ nw sz,zbK e (.own g ver lo len)=some (g,0,0,false,nw,sz,[]))
 rw[hρ]
 refine⟨(lo,len,frz,nw,sz,xs),?_,?_⟩<;>simp only[zbK,hs,he]<;>rw[show Nat.beq _ _=true from Nat.beq_refl _]<;>rfl
def oMem (says:List Vec) (ages:List Int) (os:List Offer):Mem :=
 [(6,.cells false true [.dat false (.slice (says.map Vec.cells))]),(7,.cells false true [.dat false (.slice (ages.map zad))]),(9,.cells false true [.own 26 os.length 0 os.length]),(26,.row os.length false true 7 (os.map Offer.cells))]
def zcg (says:List Vec) (ages:List Int) (e:End):Offer:=⟨e.port,e.cost,gv ages e.other.toNat,{ (says[e.other.toNat]?).getD .zero with port:=e.oport }⟩
set_option maxHeartbeats 4000000 in
theorem zm2 (says:List Vec) (ages:List Int) (os:List Offer) (e:End) (h0:0≤e.other) (hs:e.other<says.length) (ha:e.other<ages.length) (ho:os.length≤1000) :
  FnM Tryz.prog 138 ([.dat false (.int .i64 e.port),.dat false (.int .i64 e.cost),.dat false (.int .i64 e.other),.dat false (.int .i64 e.oport)]++[.ptr 6 0,.ptr 9 0,.ptr 7 0])
   (oMem says ages os) (.dat true (pack [])) (oMem says ages (os++[zcg says ages e])):=by
 refine zs9 [6,7,9,26] Tryz.func138 rfl rfl rfl rfl rfl ?_
 simp only[envD,oMem,List.cons_append,List.nil_append]
 have hx:says[e.other.toNat]? = some says[e.other.toNat]:=List.getElem?_eq_getElem (by omega)
 have hy:ages[e.other.toNat]? = some (gv ages e.other.toNat):=zt0 (by omega)
 have hof:zcg says ages e=⟨e.port,e.cost,gv ages e.other.toNat,{ says[e.other.toNat]with port:=e.oport }⟩:=by unfold zcg;rw[hx];rfl
 generalize says[e.other.toNat]=v at hx hof
 repeat' (first|refine qV ?_|((first|apply dX rfl|apply Da rfl rfl|apply Db rfl rfl qN);(focus ((try intro hg);first|exact zaf rfl rfl h0 hx|exact zaf rfl rfl h0 hy|exact zan (f:=Offer.cells) (us:=os) (bs := [zcg says ages e]) rfl rfl (.dat _ _) (by rw[hof];rfl) rfl (.inr ⟨rfl,inferInstance⟩) rfl (by simp only[List.length_singleton];omega)|exact qM));constructor)|refine qP ?_)
 refine ztM .nil rfl ?_
 show [_,_,_,_]=[_,_,_,_]
 rw[List.length_append]
 rfl
set_option maxHeartbeats 4000000 in
theorem zmc (ls:List Link) (hls:ls.length≤40) (b:Nat) (says:List Vec) (ages:List Int) (hla:ages.length=says.length) (hk:∀ l∈ls,l.ok says.length) :
  FnF Tryz.prog 105 [.slice (ls.map zar),.int .i64 b,.slice (says.map Vec.cells),.slice (ages.map zad)] (offers ((rawE ls b).map (zcg says ages))):=by
 refine zal Tryz.func105 rfl rfl rfl ?_
 simp only[zap]
 have hml:(ls.map zar).length=ls.length:=by simp
 repeat' (first|refine qU ?_|((first|apply dX rfl|apply Da rfl rfl|apply Db rfl rfl qN);(focus ((try intro hg);first|exact zpG rfl rfl|exact qM));constructor)|refine qP ?_)
 refine zag (fun q:Nat×List Offer=>⟨[(1,.dat false (.int .i64 b)),(9,.ptr 9 0),(10,.fnd 138 [.ptr 6 0,.ptr 9 0,.ptr 7 0]),(14,.dat false (.slice (ls.map zar))),(15,.dat true (.int .i64 (ls.map zar).length)),(16,.dat true (.int .i64 q.1))],oMem says ages q.2,50⟩)
  (fun q=>q.1≤ls.length∧q.2=(rawE (ls.take q.1) b).map (zcg says ages)∧q.2.length≤2*q.1) (fun q=>ls.length-q.1) (0,[]) ⟨Nat.zero_le _,rfl,Nat.le_refl _⟩
  (Wk_g (fun g=>if g=26 then none else some g) rfl rfl kqf) (fun q hR=>?_)
 obtain⟨i,os⟩:=q
 obtain⟨hi,hos,hol⟩:=hR
 simp only at hi hos hol
 dsimp only
 by_cases hlt:i<ls.length
 ·have hx:ls[(i:Int).toNat]? = some ls[i]:=by simp[hlt]
  have hx':ls[i]? = some ls[i]:=by simp[hlt]
  have hkl:=hk ls[i] (List.getElem_mem hlt)
  generalize ls[i]=l at hx hx' hkl
  obtain⟨k1,k2,k3,k4,_⟩:=hkl
  have hst:(rawE (ls.take (i+1)) b).map (zcg says ages)=os++(zfz b l).map (zcg says ages):=by
   unfold rawE at hos ⊢
   rw[List.take_add_one,hx',List.flatMap_append,List.map_append,←hos]
   simp
  have hc1:=fun os ho=>zm2 says ages os ⟨l.pa,l.cost,l.b,l.pb⟩ k3 k4 (by show l.b<_;omega) ho
  have hc2:=fun os ho=>zm2 says ages os ⟨l.pb,l.cost,l.a,l.pa⟩ k1 k2 (by show l.a<_;omega) ho
  have he:zfz b l=(if l.a=b then [⟨l.pa,l.cost,l.b,l.pb⟩]else [])++(if l.b=b then [⟨l.pb,l.cost,l.a,l.pa⟩]else []):=rfl
  by_cases h1:l.a=b
  ·rw[if_pos h1]at he
   by_cases h2:l.b=b
   ·rw[if_pos h2]at he
    repeat' (first|refine dstep rfl (.plain rfl (zgu [6,7,9,26] rfl (hc1 _ (by omega)) rfl rfl rfl rfl rfl rfl rfl)) ?_|refine dstep rfl (.plain rfl (zgu [6,7,9,26] rfl (hc2 _ (by(try simp only[List.length_append,List.length_singleton]);omega)) rfl rfl rfl rfl rfl rfl rfl)) ?_|refine qU ?_|refine qW ?_|((first|apply dX rfl|apply Da rfl rfl|apply Db rfl rfl qN);(focus ((try intro hg);first|exact zaf rfl rfl (by omega) hx|exact qMo));constructor)|refine qP ?_)
    refine zaa (i+1,os++[zcg says ages ⟨l.pa,l.cost,l.b,l.pb⟩]++[zcg says ages ⟨l.pb,l.cost,l.a,l.pa⟩]) ⟨hlt,?_,?_⟩ (by simp only;omega) (Wk_g some rfl rfl kqof)
    ·rw[hst,he];simp
    ·simp only[List.length_append,List.length_singleton];omega
   ·rw[if_neg h2]at he
    repeat' (first|refine dstep rfl (.plain rfl (zgu [6,7,9,26] rfl (hc1 _ (by omega)) rfl rfl rfl rfl rfl rfl rfl)) ?_|refine qU ?_|refine qW ?_|((first|apply dX rfl|apply Da rfl rfl|apply Db rfl rfl qN);(focus ((try intro hg);first|exact zaf rfl rfl (by omega) hx|exact qMo));constructor)|refine qP ?_)
    refine zaa (i+1,os++[zcg says ages ⟨l.pa,l.cost,l.b,l.pb⟩]) ⟨hlt,?_,?_⟩ (by simp only;omega) (Wk_g some rfl rfl kqof)
    ·rw[hst,he];simp
    ·simp only[List.length_append,List.length_singleton];omega
  ·rw[if_neg h1]at he
   by_cases h2:l.b=b
   ·rw[if_pos h2]at he
    repeat' (first|refine dstep rfl (.plain rfl (zgu [6,7,9,26] rfl (hc2 _ (by(try simp only[List.length_append,List.length_singleton]);omega)) rfl rfl rfl rfl rfl rfl rfl)) ?_|refine qU ?_|refine qW ?_|((first|apply dX rfl|apply Da rfl rfl|apply Db rfl rfl qN);(focus ((try intro hg);first|exact zaf rfl rfl (by omega) hx|exact qMo));constructor)|refine qP ?_)
    refine zaa (i+1,os++[zcg says ages ⟨l.pb,l.cost,l.a,l.pa⟩]) ⟨hlt,?_,?_⟩ (by simp only;omega) (Wk_g some rfl rfl kqof)
    ·rw[hst,he];simp
    ·simp only[List.length_append,List.length_singleton];omega
   ·rw[if_neg h2]at he
    repeat' (first|refine qU ?_|refine qW ?_|((first|apply dX rfl|apply Da rfl rfl|apply Db rfl rfl qN);(focus ((try intro hg);first|exact zaf rfl rfl (by omega) hx|exact qMo));constructor)|refine qP ?_)
    refine zaa (i+1,os) ⟨hlt,?_,?_⟩ (by simp only;omega) (Wk_g some rfl rfl kqof)
    ·rw[hst,he];simp
    ·simp only;omega
 ·rw[List.take_of_length_le (by omega)]at hos
  repeat' (first|refine zaR 8 rfl rfl (by simp) ?_|refine qU ?_|refine qW ?_|((first|apply dX rfl|apply Da rfl rfl|apply Db rfl rfl qN);(focus ((try intro hg);first|exact qMo));constructor)|refine qP ?_)
  refine ret1 rfl qF ?_
  rw[hos]
  rfl
end Go.Proofs.YtcdhlofhhcgohaaGreat
namespace Go.Proofs.YtcdhlofhhcgohaaGreat
theorem Ch.ext3 {a b:Ch} (h1:a.best=b.best) (h2:a.age=b.age) (h3:a.port=b.port):a=b:=by
 obtain⟨x,y,z⟩:=a
 obtain⟨x',y',z'⟩:=b
 simp only at h1 h2 h3
 subst h1;subst h2;subst h3;rfl
theorem zmd {id:Int} {l r:List Offer} (hp:∀ o,o∈l↔o∈r) (hu:∀ o∈l,∀ o'∈l,o.port=o'.port→o=o'):zaK id l=zaK id r:=by
 have il:=zie id l
 have ir:=zie id r
 generalize zaK id l=a at il
 generalize zaK id r=b at ir
 by_cases ha:a.port<0
 ·by_cases hb:b.port<0
  ·rw[il.neg ha,ir.neg hb]
  ·obtain⟨o,ho,he,_⟩:=ir.some (by omega)
   have:=(il.min o ((hp o).2 ho) _ he).1
   omega
 ·obtain⟨o,ho,he,hpo,hag⟩:=il.some (by omega)
  have hb:=ir.min o ((hp o).1 ho) _ he
  obtain⟨o',ho',he',hpo',hag'⟩:=ir.some hb.1
  have ha2:=il.min o' ((hp o').2 ho') _ he'
  have h1:=hb.2
  have h2:=ha2.2
  rw[hpo]at h1
  rw[hpo']at h2
  obtain⟨e1,e2,e3,e4,e5⟩:=Vec.le2_antisymm h2 h1
  have:o=o':=hu o ho o' ((hp o').2 ho') (by rw[hpo,hpo',e5])
  subst this
  exact Ch.ext3 (Vec.ext4 e1 e2 e3 e4) (by rw[hag,hag']) e5
def zch (n:Net) (i:Nat) (l:List Mind):List Offer:=(rawE (za3 n) i).map (zfY l)
theorem zhD {n:Net} {i:Nat} {l:List Mind} (o:Offer):o∈zch n i l↔o∈hears (zaL n i) l:=by
 unfold zch hears
 rw[List.mem_map,List.mem_map]
 constructor
 ·rintro⟨e,he,rfl⟩;exact⟨e,zco.2 he,rfl⟩
 ·rintro⟨e,he,rfl⟩;exact⟨e,zco.1 he,rfl⟩
theorem zla {n:Net} (h:n.good) (i:Nat) (id:Int) (l:List Mind):zaK id (zch n i l)=zaK id (hears (zaL n i) l):=by
 refine zmd zhD fun o ho o' ho' hp=>?_
 unfold zch at ho ho'
 obtain⟨e,he,rfl⟩:=List.mem_map.1 ho
 obtain⟨e',he',rfl⟩:=List.mem_map.1 ho'
 rw[h.end_one he he' hp]
theorem zme {n:Net} (h:n.good) (i:Nat) (v:Vec) (r:Int) (l:List Mind):(zah n.links i).map (ze0 (za3 n) i v r (zch n i l))=zde (zaL n i) v r (hears (zaL n i) l) (zah n.links i):=by
 unfold zde
 refine List.map_congr_left fun p _=>?_
 unfold ze0
 rw[zsV h p]
 split
 ·unfold zb9
  split
  ·rfl
  ·have:(zch n i l).any (Offer.blocks { v with port:=p } p)=(hears (zaL n i) l).any (Offer.blocks { v with port:=p } p):=by
    rw[Bool.eq_iff_iff,List.any_eq_true,List.any_eq_true]
    constructor
    ·rintro⟨o,ho,hb⟩;exact⟨o,(zhD o).1 ho,hb⟩
    ·rintro⟨o,ho,hb⟩;exact⟨o,(zhD o).2 ho,hb⟩
   rw[this]
 ·rfl
theorem zrV {n:Net} (h:n.good) (i:Nat) {l:List Mind} (hl:l.length=n.bridges.length):(rawE (za3 n) i).map (zcg (l.map (·.vec)) (l.map (·.age)))=zch n i l:=by
 unfold zch
 refine List.map_congr_left fun e he=>?_
 have ho:=zjc h he
 have hx:e.other.toNat<l.length:=by omega
 have hm:l[e.other.toNat]? = some l[e.other.toNat]:=List.getElem?_eq_getElem hx
 unfold zcg zfY gv
 rw[List.getElem?_map,List.getElem?_map,hm]
 rfl
theorem zrW {n:Net} (h:n.good) (tree:Int) (i:Nat) (l:List Mind):zdf n tree i (zaL n i) l =
  ⟨(zaK (idN n tree i) (zch n i l)).says (idN n tree i),(zaK (idN n tree i) (zch n i l)).age,(zaK (idN n tree i) (zch n i l)).port,zah n.links i,
   (zah n.links i).map (ze0 (za3 n) i ((zaK (idN n tree i) (zch n i l)).says (idN n tree i)) (zaK (idN n tree i) (zch n i l)).port (zch n i l)),
   zbL ((zah n.links i).map (ze0 (za3 n) i ((zaK (idN n tree i) (zch n i l)).says (idN n tree i)) (zaK (idN n tree i) (zch n i l)).port (zch n i l))) ((l[i]?).getD .zero).calm⟩:=by
 unfold zdf
 rw[zla h,zme h]
end Go.Proofs.YtcdhlofhhcgohaaGreat
namespace Go.Proofs.YtcdhlofhhcgohaaGreat
open Go.RowKit
def zt7 (id:Int) (l:List Offer) (c:Ch) (at':Int) (b:Vec):Prop :=
  (at' = -1∧c=Ch.start id)∨∃ (n:Nat) (o:Offer),at'=(n:Int)∧l[n]? = some o∧c=⟨b,o.age+1,o.port⟩∧0≤o.port∧0≤o.age∧o.age<20
attribute [local irreducible] SStep DW DWin DOps zaG zaE zaJ retQ zaN FnF FnG FnI Wk IntKind.wrap IntKind.andI IntKind.orI IntKind.xorI IntKind.andNotI IntKind.shlI IntKind.shrI Vec.cmp Ch.step
set_option maxHeartbeats 4000000 in
theorem zmf (id:Int) (l:List Offer):FnF Tryz.prog 106 [.int .u64 id,offers l] (.tuple [((zaK id l).says id).v,.int .i64 (zaK id l).age,.int .i64 (zaK id l).port]):=by
  refine zal Tryz.func106 rfl rfl rfl ?_
  simp only[zap,offers]
  refine zbY 1 rfl (fun hlen=>?_)
  have hml:(l.map Offer.cells).length=l.length:=by simp
  repeat' (first|refine qU ?_|((first|apply dX rfl|apply Da rfl rfl|apply Db rfl rfl qN);(focus ((try intro hg);first|exact qM));constructor)|refine qP ?_)
  refine zag (fun p:Nat×Ch×Int×Vec=>⟨[(0,.dat false (.int .u64 id)),(1,.dat false (.slice (l.map Offer.cells))),(4,.ptr 4 0),(7,.dat true (.int .i64 p.2.2.1)),(8,.ptr 8 0),(13,.dat false (.slice (l.map Offer.cells))),
      (14,.dat true (.int .i64 (l.map Offer.cells).length)),(15,.dat true (.int .i64 p.1))],
      [(8,.cells false true [.dat true (.int .u64 p.2.2.2.root),.dat true (.int .i64 p.2.2.2.cost),.dat true (.int .u64 p.2.2.2.bridge),.dat true (.int .i64 p.2.2.2.port)]),
       (4,.cells false true [.dat true (.int .u64 0),.dat true (.int .i64 0),.dat true (.int .u64 0),.dat true (.int .i64 0)])],98⟩)
    (fun p=>p.1≤l.length∧zaK id l=(l.drop p.1).foldl (Ch.step id) p.2.1∧zt7 id l p.2.1 p.2.2.1 p.2.2.2) (fun p=>l.length-p.1) (0,.start id, -1,.zero) ⟨Nat.zero_le _,rfl,.inl ⟨rfl,rfl⟩⟩
    (Wk_g some rfl rfl kq) (fun p hR=>?_)
  obtain⟨k,c,at',b⟩:=p
  obtain⟨hk,hch,hr⟩:=hR
  simp only at hk hch hr
  dsimp only
  by_cases hlt:k<l.length
  · have hx : (l.map Offer.cells)[(k:Int).toNat]? = some (l[k]).cells:=by simp[hlt]
    have hxk:l[k]? = some l[k]:=by simp[hlt]
    rw[List.drop_eq_getElem_cons hlt,List.foldl_cons]at hch
    generalize l[k]=o at hx hxk hch
    by_cases hel:o.good id
    · have hE:=Offer.good_true hel
      obtain⟨i0,i1,i2,i3,i4⟩:=hel
      have hst:=Ch.step_in (c:=c) i0 i1 i2 i3 i4
      rcases hr with⟨rfl,rfl⟩|⟨n,o',rfl,hn,rfl,hp0,ha0,ha1⟩
      · rw[if_pos (.inl (show(-1:Int)<0 by decide))]at hst
        repeat' (first|(apply zcs rfl;case hb=>exact hE)|refine qU ?_|((first|apply dX rfl|apply Da rfl rfl|apply Db rfl rfl qN);(focus ((try intro hg);first|exact zab (zam rfl rfl) (decide_eq_true (by omega:(k:Int)<((l.map Offer.cells).length:Int)))|exact zaT rfl rfl (by omega) hx rfl|exact zac (zhA o.vec o.cost) rfl|exact zab (b:=true) (zam rfl rfl) rfl|exact qM));constructor)|refine qP ?_)
        exact zaa (k+1,⟨(o.vec.over o.cost).getD .zero,o.age+1,o.port⟩,(k:Int),(o.vec.over o.cost).getD .zero) ⟨hlt,by rw[hch,hst],.inr ⟨k,o,rfl,hxk,rfl,i1,i2,i3⟩⟩ (by simp only;omega) (Wk_g some rfl rfl kq)
      · have hn0:¬((n:Nat):Int)<0:=by omega
        have hxn:(l.map Offer.cells)[((n:Nat):Int).toNat]? = some o'.cells:=by rw[Int.toNat_natCast,List.getElem?_map,hn];rfl
        have hbt:=zhz ((o.vec.over o.cost).getD .zero) b
        have hqe:=zrO ((o.vec.over o.cost).getD .zero) b
        have hz := @Vec.cmp_zero ((o.vec.over o.cost).getD .zero) b
        simp only at hst
        have hov:=zhA o.vec o.cost
        generalize (o.vec.over o.cost).getD .zero=v at hst hbt hqe hz i4 hov hE
        by_cases ht:v.cmp b<0∨(v=b∧o.port<o'.port)
        · rw[if_pos (.inr (by rw[hz];exact ht))]at hst
          have hT:(decide (v.cmp b<0) || (decide (v=b) && decide (o.port<o'.port)))=true:=by simpa using ht
          repeat' (first|(apply zcs rfl;case hb=>exact hE)|(apply zfr rfl;case hb=>exact hT)|refine qU ?_|((first|apply dX rfl|apply Da rfl rfl|apply Db rfl rfl qN);(focus ((try intro hg);first|exact zab (zam rfl rfl) (decide_eq_true (by omega:(k:Int)<((l.map Offer.cells).length:Int)))|exact zaT rfl rfl (by omega) hx rfl|exact zaT rfl rfl (by omega) hxn rfl|exact zac hov rfl|exact zac hbt rfl|exact ze6 rfl rfl rfl rfl hqe|exact zab (zam rfl rfl) (decide_eq_false hn0)|exact qM));constructor)|refine qP ?_)
          exact zaa (k+1,⟨v,o.age+1,o.port⟩,(k:Int),v) ⟨hlt,by rw[hch,hst],.inr ⟨k,o,rfl,hxk,rfl,i1,i2,i3⟩⟩ (by simp only;omega) (Wk_g some rfl rfl kq)
        · rw [if_neg (by rw[hz];exact fun h=>h.elim (fun h=>by omega) ht)]at hst
          have hT:(decide (v.cmp b<0) || (decide (v=b) && decide (o.port<o'.port)))=false:=by
            rw[Bool.or_eq_false_iff,Bool.and_eq_false_iff,decide_eq_false_iff_not,decide_eq_false_iff_not,decide_eq_false_iff_not]
            refine⟨fun h=>ht (.inl h),?_⟩
            by_cases h:v=b
            · exact .inr (fun h2=>ht (.inr ⟨h,h2⟩))
            · exact .inl h
          repeat' (first|(apply zcs rfl;case hb=>exact hE)|(apply zcs rfl;case hb=>exact hT)|refine qU ?_|((first|apply dX rfl|apply Da rfl rfl|apply Db rfl rfl qN);(focus ((try intro hg);first|exact zab (zam rfl rfl) (decide_eq_true (by omega:(k:Int)<((l.map Offer.cells).length:Int)))|exact zaT rfl rfl (by omega) hx rfl|exact zaT rfl rfl (by omega) hxn rfl|exact zac hov rfl|exact zac hbt rfl|exact ze6 rfl rfl rfl rfl hqe|exact zab (zam rfl rfl) (decide_eq_false hn0)|exact qM));constructor)|refine qP ?_)
          exact zaa (k+1,⟨b,o'.age+1,o'.port⟩,(n:Int),b) ⟨hlt,by rw[hch,hst],.inr ⟨n,o',rfl,hn,rfl,hp0,ha0,ha1⟩⟩ (by simp only;omega) (Wk_g some rfl rfl kq)
    · have hE:=Offer.good_false hel
      repeat' (first|(apply zfr rfl;case hb=>exact hE)|refine qU ?_|((first|apply dX rfl|apply Da rfl rfl|apply Db rfl rfl qN);(focus ((try intro hg);first|exact zab (zam rfl rfl) (decide_eq_true (by omega:(k:Int)<((l.map Offer.cells).length:Int)))|exact zaT rfl rfl (by omega) hx rfl|exact zac (zhA o.vec o.cost) rfl|exact qM));constructor)|refine qP ?_)
      exact zaa (k+1,c,at',b) ⟨hlt,by rw[hch,Ch.step_bad hel],hr⟩ (by simp only;omega) (Wk_g some rfl rfl kq)
  · rw [List.drop_eq_nil_of_le (by omega)]at hch
    rcases hr with⟨rfl,rfl⟩|⟨n,o',rfl,hn,rfl,hp0,ha0,ha1⟩
    · repeat' (first|refine qU ?_|((first|apply dX rfl|apply Da rfl rfl|apply Db rfl rfl qN);(focus ((try intro hg);first|exact zab (zam rfl rfl) (decide_eq_false (by omega:¬(k:Int)<((l.map Offer.cells).length:Int)))|exact zab (b:=true) (zam rfl rfl) rfl|exact qM));constructor)|refine qP ?_)
      refine retN (.cellA inferInstance rfl rfl rfl rfl qF (.tmp rfl qF (.tmp rfl qF .nil))) ?_
      rw[hch];rfl
    · have hxn:(l.map Offer.cells)[((n:Nat):Int).toNat]? = some o'.cells:=by rw[Int.toNat_natCast,List.getElem?_map,hn];rfl
      repeat' (first|refine qU ?_|((first|apply dX rfl|apply Da rfl rfl|apply Db rfl rfl qN);(focus ((try intro hg);first|exact zab (zam rfl rfl) (decide_eq_false (by omega:¬(k:Int)<((l.map Offer.cells).length:Int)))|exact zab (zam rfl rfl) (decide_eq_false (by omega:¬((n:Nat):Int)<0))|exact zaT rfl rfl (by omega) hxn rfl|exact qM));constructor)|refine qP ?_)
      refine retN (.cellA inferInstance rfl rfl rfl rfl qF (.tmp rfl qF (.tmp rfl qF .nil))) ?_
      rw[hch];rfl
end Go.Proofs.YtcdhlofhhcgohaaGreat
