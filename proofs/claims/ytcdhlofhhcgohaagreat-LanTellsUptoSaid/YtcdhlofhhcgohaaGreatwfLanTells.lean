/- Law: LanTells. -/
import Derived.Test.YtcdhlofhhcgohaaGreatwcPlO
import Derived.Test.YtcdhlofhhcgohaaGreatwcPlV
import Derived.Test.YtcdhlofhhcgohaaGreatwdBkw
import Derived.Test.YtcdhlofhhcgohaaGreatwdLnS
import Derived.Test.YtcdhlofhhcgohaaGreatwdLrS
import Derived.Test.YtcdhlofhhcgohaaGreatwdRfc
import Derived.Test.YtcdhlofhhcgohaaGreatwdTrw
namespace Go.Proofs.YtcdhlofhhcgohaaGreat
open Go.RowKit
theorem zqi {n:Net} (hg:n.good) {t:List (List Mind)} {vid:Int}:∀ (k:Nat) (todo:List Come) (seen:List OutF) (bs:List (List Ent)),(∀ c∈todo,c.ok n)→(∀ s∈seen,s.2.ok)→∀ s∈(goS n t vid k todo seen bs).seen,s.2.ok
 | 0,[],seen,bs,_,h=>h
 | _+1,[],seen,bs,_,h=>h
 | 0,_::_,_,_,_,_=>fun s hs=>by cases hs
 | k + 1,c::r,seen,bs,hc,h=>by
  rw[goS]
  split
  ·exact fun s hs=>by cases hs
  ·have ho:=zl1 (r:=zfg n c.br) (gs:=zbc n t c.br vid) (l:=zdj bs c.br) (port:=c.port) (hc c (by simp)).f
   refine zqi hg k _ _ _ (fun x hx=>?_) (fun x hx=>?_)
   ·rcases List.mem_append.1 hx with hx|hx
    ·exact hc x (by simp[hx])
    ·exact zfG hg ho x hx
   ·rcases List.mem_append.1 hx with hx|hx
    ·exact h x hx
    ·obtain⟨o,hm,_,rfl⟩:=mem_seen hx
     exact ho o hm
theorem zts {n:Net} (hg:n.good) {t:List (List Mind)} {bs:List (List Ent)} {frm vid:Int} {f:Frame} (hf:f.ok):∀ s∈(zjl n t bs frm vid f).seen,s.2.ok:=by
 unfold zjl
 split
 ·exact fun s hs=>by cases hs
 split
 ·exact fun s hs=>by cases hs
 split
 ·exact fun s hs=>by cases hs
 split
 ·exact fun s hs=>by cases hs
 split
 ·exact fun s hs=>by cases hs
 split
 ·exact fun s hs=>by cases hs
 ·rename_i h1 h2 h3 h4 h5 h6
  exact zqi hg _ _ _ _ (fun c hc=>by rw[List.mem_singleton.1 hc];exact⟨by simp only;omega,by simp only;omega,hf⟩) (fun s hs=>by cases hs)
attribute [local irreducible] SStep DW DWin DOps zaG zaE zaJ retQ zaN FnF FnG FnI FnM Wk IntKind.wrap IntKind.andI IntKind.orI IntKind.xorI IntKind.andNotI IntKind.shlI IntKind.shrI zdS onA onV zjl
theorem zfm (a:List OutF) (ha:∀ o∈a,o.2.ok):FnF Tryz.prog 24 [.slice (a.map outV),.slice (a.map outV)] (.bool true):=by
 refine zal Tryz.func24 rfl rfl rfl ?_
 simp only[zap]
 have hml:(a.map outV).length=a.length:=by simp
 refine zbY 0 rfl (fun hlen=>?_)
 repeat' (first|refine qU ?_|refine qW ?_|((first|apply dX rfl|apply Da rfl rfl|apply Db rfl rfl qN);(focus ((try intro hg);first|exact qMo));constructor)|refine qP ?_)
 refine zag (fun k:Nat=>⟨[(0,.dat false (.slice (a.map outV))),(1,.dat false (.slice (a.map outV))),(12,.dat true (.int .i64 (a.map outV).length)),(13,.dat true (.int .i64 k))],[],42⟩)
  (fun k=>k≤a.length) (fun k=>a.length-k) 0 (Nat.zero_le _)
  (Wk_g some rfl rfl kq) (fun k hk=>?_)
 by_cases hlt:k<a.length
 ·have hx:a[(k:Int).toNat]? = some a[k]:=by simp[hlt]
  have ho:=ha a[k] (List.getElem_mem hlt)
  generalize a[k]=o at hx ho
  have hs:=zpt o.2 o.2 ho ho
  rw[Frame.same_self]at hs
  repeat' (first|refine qU ?_|refine qW ?_|((first|apply dX rfl|apply Da rfl rfl|apply Db rfl rfl qN);(focus ((try intro hg);first|exact zaf rfl rfl (by omega) hx|exact zac hs rfl|exact qMo));constructor)|refine qP ?_)
  exact zaa (k+1) hlt (by omega) (Wk_g some rfl rfl kq)
 ·repeat' (first|refine qU ?_|refine qW ?_|((first|apply dX rfl|apply Da rfl rfl|apply Db rfl rfl qN);(focus ((try intro hg);first|exact qMo));constructor)|refine qP ?_)
  exact ret1 rfl (.inl rfl) rfl
theorem zeB (a:List (List Ent)):FnF Tryz.prog 25 [.slice (a.map za8),.slice (a.map za8)] (.bool true):=by
 refine zal Tryz.func25 rfl rfl rfl ?_
 simp only[zap]
 have hml:(a.map za8).length=a.length:=by simp
 refine zbY 0 rfl (fun hlen=>?_)
 repeat' (first|refine qU ?_|refine qW ?_|((first|apply dX rfl|apply Da rfl rfl|apply Db rfl rfl qN);(focus ((try intro hg);first|exact qMo));constructor)|refine qP ?_)
 refine zag (fun k:Nat=>⟨[(0,.dat false (.slice (a.map za8))),(1,.dat false (.slice (a.map za8))),(12,.dat true (.int .i64 (a.map za8).length)),(13,.dat true (.int .i64 k))],[],27⟩)
  (fun k=>k≤a.length) (fun k=>a.length-k) 0 (Nat.zero_le _)
  (Wk_g some rfl rfl kq) (fun k hk=>?_)
 by_cases hlt:k<a.length
 ·have hx:a[(k:Int).toNat]? = some a[k]:=by simp[hlt]
  generalize a[k]=l at hx
  have hs:=zpq l
  repeat' (first|refine qU ?_|refine qW ?_|((first|apply dX rfl|apply Da rfl rfl|apply Db rfl rfl qN);(focus ((try intro hg);first|exact zaf rfl rfl (by omega) hx|exact zac hs rfl|exact qMo));constructor)|refine qP ?_)
  exact zaa (k+1) hlt (by omega) (Wk_g some rfl rfl kq)
 ·repeat' (first|refine qU ?_|refine qW ?_|((first|apply dX rfl|apply Da rfl rfl|apply Db rfl rfl qN);(focus ((try intro hg);first|exact qMo));constructor)|refine qP ?_)
  exact ret1 rfl (.inl rfl) rfl
theorem zm3 (x:Int) (y:Nat):eqL [V.int .i64 x,V.int .i64 y] [V.int .i64 x,V.int .i64 y]=some true:=by simp[eqL,V.eq1]
set_option maxHeartbeats 8000000 in
theorem zlc (n:Net) (ht:n.typed) (trees:Int) (l:List Doing) (bs:List (List Ent)) (hbl:bs.length≤1048576) (hbe:∀ l∈bs,l.length≤1048576) (frm vid:Int) (f:Frame) (hf:f.ok) :
  FnF Tryz.prog 4 [n.v,.int .i64 trees,.slice (l.map Doing.cells),.slice (bs.map za8),.int .i64 frm,.int .i64 vid,f.v] (.bool true):=by
 refine zal Tryz.func4 rfl rfl rfl ?_
 simp only[zap]
 have hq:=zlb n ht trees l
 rcases zhx ht trees l with⟨w,hw,hne⟩|⟨hg,h0,h1,h2,hl,⟨m,t⟩,hon,hpl⟩
 ·rw[hw]at hq
  obtain⟨e,k⟩:=w
  simp only at hne
  rw[show onV (none,(e,k)) = .tuple [Net.v ⟨[],[]⟩,zaO [],zb1 (e,k)] by with_unfolding_all rfl]at hq
  have s1:=zfm [] (fun o ho=>by cases ho)
  have s2:=zeB []
  obtain⟨u,a1,a2⟩:∃ u:Int×Nat,FnF Tryz.prog 22 [n.v,.agg [.slice []],.slice (bs.map za8),.int .i64 frm,.int .i64 vid,f.v] (.tuple [.slice [],.slice [],.bool false,.agg [.int .i64 u.1,.int .i64 u.2]])∧FnF Tryz.prog 23 [n.v,.agg [.slice []],.slice (bs.map za8),.int .i64 frm,.int .i64 vid,f.v] (.tuple [.slice [],.slice [],.bool false,.agg [.int .i64 u.1,.int .i64 u.2]]):=by
   by_cases h0:n.wrong.1=0
   ·exact⟨(8,0),zp4 n ht h0 bs frm vid f,zn0 n ht h0 bs frm vid f⟩
   ·exact⟨n.wrong,zp3 n ht h0 [] bs frm vid f,znZ n ht h0 [] bs frm vid f⟩
  obtain⟨u1,u2⟩:=u
  have q0:=zm3 u1 u2
  repeat' (first|refine qU ?_|refine qW ?_|((first|apply dX rfl|apply Da rfl rfl|apply Db rfl rfl qN);(focus ((try intro hg);first|exact zeb [true,false,false] hq (fun m' hag=>⟨(zbx hag).trans rfl,⟨⟨_,rfl⟩,trivial⟩⟩)|exact zac a1 rfl|exact zac a2 rfl|exact zac s1 rfl|exact zac s2 rfl|exact ze6 rfl rfl rfl rfl q0|exact zab (b:=true) (zdp rfl rfl) (zls _)|exact qMo));constructor)|refine qP ?_)
  refine ret1 rfl qF ?_
  rfl
 rw[hpl]at hq
 rw[show onV (some (m,t),(0,0)) = .tuple [m.v,zaO t,zb1 (0,0)] by with_unfolding_all rfl]at hq
 obtain⟨mg,mt,m0,mk,mgt,mtl⟩:=zm1 ht hpl hg h0 h1 h2 hon
 have a1:=zp5 m mt m0 t mgt (by omega) bs hbl hbe frm vid f hf
 have a2:=zn1 m mt m0 t mgt (by omega) bs hbl frm vid f hf
 have s1:=zfm _ (zts (t:=t) (bs:=bs) (frm:=frm) (vid:=vid) mg hf)
 have s2:=zeB (zjl m t bs frm vid f).books
 generalize zjl m t bs frm vid f=s at a1 a2 s1 s2
 obtain⟨seen,books,ok,u1,u2⟩:=s
 change FnF _ _ _ (.tuple [.slice (seen.map outV),.slice (books.map za8),.bool ok,.agg [.int .i64 u1,.int .i64 u2]])at a1
 change FnG _ _ _ _ (.dat false (.tuple [.slice (seen.map outV),.slice (books.map za8),.bool ok,.agg [.int .i64 u1,.int .i64 u2]])) _ at a2
 have q0:=zm3 u1 u2
 repeat' (first|refine qU ?_|refine qW ?_|((first|apply dX rfl|apply Da rfl rfl|apply Db rfl rfl qN);(focus ((try intro hg);first|exact zeb [true,false,false] hq (fun m' hag=>⟨(zbx hag).trans rfl,⟨⟨_,rfl⟩,trivial⟩⟩)|exact zac a1 rfl|exact ze4 a2 rfl|exact zac s1 rfl|exact zac s2 rfl|exact ze6 rfl rfl rfl rfl q0|exact zab (b:=true) (zdp rfl rfl) (zls _)|exact qMo));constructor)|refine qP ?_)
 refine ret1 rfl qF ?_
 cases ok<;>rfl
end Go.Proofs.YtcdhlofhhcgohaaGreat
