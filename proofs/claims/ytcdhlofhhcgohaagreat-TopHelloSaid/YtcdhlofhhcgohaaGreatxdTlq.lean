/- Contracts: talk.do, where a priority is given. -/
import Derived.Test.YtcdhlofhhcgohaaGreatxcPlQ
import Derived.Test.YtcdhlofhhcgohaaGreatxcPlW
namespace Go.Proofs.YtcdhlofhhcgohaaGreat
open Go.RowKit
structure Mind where
 vec:Vec
 age:Int
 rootPort:Int
 ports:List Int
 roles:List Int
 calm:List Int
def Mind.cells (m:Mind):List V:=m.vec.cells++[.int .i64 m.age,.int .i64 m.rootPort,.slice (m.ports.map intV1),.slice (m.roles.map intV1),.slice (m.calm.map intV1)]
instance : CellsI Mind.cells 9:=⟨fun _=>rfl,fun t d h=>by
 simp only[Mind.cells,Vec.cells,List.cons_append,List.nil_append,List.mem_cons,List.mem_nil_iff,or_false]at h
 rcases h with rfl|rfl|rfl|rfl|rfl|rfl|rfl|rfl|rfl<;>rfl⟩
def Mind.zero : Mind:=⟨.zero,0,0,[],[],[]⟩
def mindsRow (l:List Mind):List V := [.slice (l.map Mind.cells)]
instance : CellsI mindsRow 1:=⟨fun _=>rfl,fun t d h=>by
 simp only[mindsRow,List.mem_cons,List.mem_nil_iff,or_false]at h
 subst h;rfl⟩
def talkV (t:List (List Mind)):V := .agg [.slice (t.map mindsRow)]
def hearOf (l:List Mind) (e:End):Offer:=⟨e.port,e.cost,((l[e.other.toNat]?).getD .zero).age,{ ((l[e.other.toNat]?).getD .zero).vec with port:=e.oport }⟩
def hears (ends:List End) (l:List Mind):List Offer:=ends.map (hearOf l)
def calmOf (r c:Int):Int:=if r=1∨r=2 then(if c<49 then c else 49)+1 else 0
def calmsOf (roles calm:List Int):List Int:=(List.range roles.length).map fun k=>calmOf ((roles[k]?).getD 0) ((calm[k]?).getD 0)
def mindOf (n:Net) (tree:Int) (i:Nat) (ends:List End) (l:List Mind):Mind :=
 let c:=chooseS (idN n tree i) (hears ends l)
 let v:=c.says (idN n tree i)
 let rs:=rolesP ends v c.port (hears ends l) (portsOf n.links i)
 ⟨v,c.age,c.port,portsOf n.links i,rs,calmsOf rs ((l[i]?).getD .zero).calm⟩
def tickT (n:Net) (tree:Int) (l:List Mind):List Mind:=(List.range l.length).map fun i=>mindOf n tree i (endsOf n i) l
def tickN (n:Net) (t:List (List Mind)):List (List Mind):=(List.range t.length).map fun(k:Nat)=>tickT n k ((t[k]?).getD [])
def ticksN (n:Net) (t:List (List Mind)):Nat→List (List Mind)
 | 0=>t
 | k+1=>tickN n (ticksN n t k)
def mind0 (n:Net) (tree:Int) (i:Nat):Mind:=⟨⟨idN n tree i,0,idN n tree i,0⟩,0, -1,portsOf n.links i,(portsOf n.links i).map fun _=>0,(portsOf n.links i).map fun _=>0⟩
def start0 (n:Net) (trees:Nat):List (List Mind):=(List.range trees).map fun k:Nat=>(List.range n.bridges.length).map (mind0 n k)
structure Doing where
 kind:Int
 n:Int
 tree:Int
 value:Int
def Doing.cells (d:Doing):List V := [.int .i64 d.kind,.int .i64 d.n,.int .i64 d.tree,.int .i64 d.value]
def setPrio (ps:List Int) (tree:Nat) (v:Int):List Int:=(ps++List.replicate (tree+1-ps.length) 32768).set tree v
def doS (n:Net) (d:Doing):Net×Int :=
 if d.kind=2∨d.kind=3∨d.kind=4 then
  if d.n<0∨(n.links.length:Int)≤d.n then(n,6)
  else if d.kind≠4 then(⟨n.bridges,n.links.modify d.n.toNat fun l=>{ l with up:=decide (d.kind=2) }⟩,0)
  else if d.value<1∨200000<d.value then(n,3)
  else(⟨n.bridges,n.links.modify d.n.toNat fun l=>{ l with cost:=d.value }⟩,0)
 else if d.kind=5 then
  if d.n<0∨(n.bridges.length:Int)≤d.n then(n,6)
  else if d.tree<0∨15<d.tree∨d.value<0∨61440<d.value∨d.value.tmod 4096≠0 then(n,3)
  else(⟨n.bridges.modify d.n.toNat fun b=>{ b with prios:=setPrio b.prios d.tree.toNat d.value },n.links⟩,0)
 else(n,1)
def onLoop : Nat→List Doing→Net→List (List Mind)→Option (Net×List (List Mind))×(Int×Nat)
 | _,[],n,t=>(some (n,t),(0,0))
 | i,d::r,n,t =>
  if d.kind=1 then
   if d.n<0∨200<d.n then(none,(3,i))else onLoop (i+1) r n (ticksN n t d.n.toNat)
  else match doS n d with
   | (n',e)=>if e≠0 then(none,(e,i))else onLoop (i+1) r n' t
theorem ownLe2 {s e:Mem} {ρ:Nat→Option Nat} {g g0 ver0 ver lo len sz:Nat} {frz nw:Bool} {xs:List (List V)} (hρ:ρ g=some g0) (hs:s.at g0 = .row ver0 frz nw sz xs) (he:e.at g = .row ver frz nw sz xs):slotLe s e ρ (.own g0 ver0 lo len) (.own g ver lo len):=by
 show(match ρ g with
  | some g0'=>∃ r,ownView s (.own g0 ver0 lo len)=some (g0',r)∧ownView e (.own g ver lo len)=some (g,r)
  | none=>(D.own g0 ver0 lo len) = .nil∧∃ nw sz,ownView e (.own g ver lo len)=some (g,0,0,false,nw,sz,[]))
 rw[hρ]
 refine⟨(lo,len,frz,nw,sz,xs),?_,?_⟩<;>simp only[ownView,hs,he]<;>rw[show Nat.beq _ _=true from Nat.beq_refl _]<;>rfl
theorem calmsOf_len (rs calm:List Int):(calmsOf rs calm).length=rs.length:=by simp[calmsOf]
structure goodM (n:Net) (i:Nat) (m:Mind):Prop where
 p:m.ports=portsOf n.links i
 r:m.roles.length=(portsOf n.links i).length
 c:m.calm.length=(portsOf n.links i).length
 b:∀ c∈m.calm,0≤c∧c≤50
structure goodT (n:Net) (t:List (List Mind)):Prop where
 l:t.length≤4
 m:∀ l∈t,l.length=n.bridges.length∧∀ (i:Nat) m,l[i]? = some m→goodM n i m
def startA (n:Net) (trees:Int):List (List Mind)×(Int×Nat):=if n.wrong.1≠0 then([],n.wrong)else if trees<1∨4<trees then([],(3,0))else(start0 n trees.toNat,(0,0))
end Go.Proofs.YtcdhlofhhcgohaaGreat
namespace Go.Proofs.YtcdhlofhhcgohaaGreat
open Go.RowKit
attribute [local irreducible] SStep DW DWS DWin DOps thenQ inBlk loopQ loopQS endM retQ retQG FnF FnG FnI FnM Wk IntKind.wrap IntKind.andI IntKind.orI IntKind.xorI IntKind.andNotI IntKind.shlI IntKind.shrI
def memD (nb v:Nat) (ls:List Link) (CS:List D) (T:Mem):Mem:=(3,.cells false true [.sl 950 nb,.own 941 v 0 ls.length])::(941,.row v false true 6 (ls.map linkV))::(950,.cells false true CS)::T
theorem modify_set {α:Type} {f:α→α} {x:α}:∀ {l:List α} {k:Nat},l[k]? = some x→l.modify k f=l.set k (f x)
 | [],k,h=>by simp at h
 | a::r,0,h=>by simp at h;subst h;simp
 | a::r,k+1,h=>by
  rw[List.getElem?_cons_succ]at h
  simp[modify_set h]
theorem endM_r {P:Program} {res:List ResultVar} {r:V} {m':Mem} {s:St} {xs:List V} (h:RetOK P s res xs) (he:pack xs=r) (hm:∀ g,s.mem.at g=m'.at g):endM P res r m' .ret s:=by
 unfold endM;exact⟨⟨xs,h,he⟩,hm⟩
theorem at_two {g:Nat} {b b':Box} {M:Mem}:∀ g',Mem.at ((g,b)::(g,b')::M) g'=Mem.at ((g,b)::M) g':=fun g'=>by
 show look Box.gone ((g,b)::(g,b')::M) g'=look Box.gone ((g,b)::M) g'
 rw[look_cons,look_cons,look_cons]
 split
 ·rfl
 ·rfl
section
variable (nb v : Nat) (ls : List Link) (CS : List D) (T : Mem)
set_option maxHeartbeats 4000000 in
/-- A link goes up, or down. -/
theorem do_up (d:Doing) (hk:d.kind=2∨d.kind=3) (A:Nat) (hA:d.n=A) (l:Link) (hx:ls[A]? = some l) :
  FnM Tryz.prog 57 [.ptr 3 0,.dat false (.rp d.cells)] (memD nb v ls CS T) (.dat true (.int .i64 0)) ((941,.row v false true 6 ((ls.set A { l with up:=decide (d.kind=2) }).map linkV))::memD nb v ls CS T):=by
 refine fnM_of Tryz.func57 rfl rfl rfl ?_
 obtain⟨kind,dn,tree,value⟩:=d
 simp only at hk hA
 subst hA
 simp only[envD,memD,Doing.cells]
 have hml:(ls.map linkV).length=ls.length:=by simp
 have hA:=(List.getElem?_eq_some_iff.1 hx).1
 have hx':ls[(A:Int).toNat]? = some l:=hx
 have hmx:(ls.map linkV)[(A:Int).toNat]? = some (linkV l):=by rw[List.getElem?_map,hx'];rfl
 have hil:(A:Int)<ls.length:=by omega
 rcases hk with hk|hk
 ·rw[decide_eq_true hk]
  repeat' (first|refine qV ?_|refine qX ?_|((first|apply dX rfl|apply Da rfl rfl|apply Db rfl rfl qN);(focus ((try intro hg);first|exact S_ixO rfl rfl rfl (by omega) hil|exact S_storeM (f:=linkV) (a := { l with up:=true }) rfl rfl hx' rfl rfl (.inr ⟨rfl,inferInstance⟩) rfl rfl|exact qMo));constructor)|refine qP ?_)
  refine endM_r (.tmp rfl qF .nil) rfl ?_
  exact fun _=>rfl
 ·rw[decide_eq_false (by omega)]
  repeat' (first|refine qV ?_|refine qX ?_|((first|apply dX rfl|apply Da rfl rfl|apply Db rfl rfl qN);(focus ((try intro hg);first|exact S_ixO rfl rfl rfl (by omega) hil|exact S_storeM (f:=linkV) (a := { l with up:=false }) rfl rfl hx' rfl rfl (.inr ⟨rfl,inferInstance⟩) rfl rfl|exact qMo));constructor)|refine qP ?_)
  refine endM_r (.tmp rfl qF .nil) rfl ?_
  exact fun _=>rfl
set_option maxHeartbeats 4000000 in
/-- A link costs something else. -/
theorem do_cost (d:Doing) (hk:d.kind=4) (A:Nat) (hA:d.n=A) (l:Link) (hx:ls[A]? = some l) (hv:1≤d.value∧d.value≤200000) :
  FnM Tryz.prog 57 [.ptr 3 0,.dat false (.rp d.cells)] (memD nb v ls CS T) (.dat true (.int .i64 0)) ((941,.row v false true 6 ((ls.set A { l with cost:=d.value }).map linkV))::memD nb v ls CS T):=by
 refine fnM_of Tryz.func57 rfl rfl rfl ?_
 obtain⟨kind,dn,tree,value⟩:=d
 simp only at hk hA hv
 subst hA
 simp only[envD,memD,Doing.cells]
 have hml:(ls.map linkV).length=ls.length:=by simp
 have hA:=(List.getElem?_eq_some_iff.1 hx).1
 have hx':ls[(A:Int).toNat]? = some l:=hx
 have hil:(A:Int)<ls.length:=by omega
 repeat' (first|refine qV ?_|refine qX ?_|((first|apply dX rfl|apply Da rfl rfl|apply Db rfl rfl qN);(focus ((try intro hg);first|exact S_ixO rfl rfl rfl (by omega) hil|exact S_storeM (f:=linkV) (a := { l with cost:=value }) rfl rfl hx' rfl rfl (.inr ⟨rfl,inferInstance⟩) rfl rfl|exact qMo));constructor)|refine qP ?_)
 refine endM_r (.tmp rfl qF .nil) rfl ?_
 exact fun _=>rfl
set_option maxHeartbeats 4000000 in
/-- There is no such link. -/
theorem do_none (d:Doing) (hk:d.kind=2∨d.kind=3∨d.kind=4) (hn:d.n<0∨(ls.length:Int)≤d.n) :
  FnM Tryz.prog 57 [.ptr 3 0,.dat false (.rp d.cells)] (memD nb v ls CS T) (.dat true (.int .i64 6)) (memD nb v ls CS T):=by
 refine fnM_of Tryz.func57 rfl rfl rfl ?_
 obtain⟨kind,dn,tree,value⟩:=d
 simp only at hk hn
 simp only[envD,memD,Doing.cells]
 rcases hk with hk|hk|hk<;>by_cases h0:dn<0
 ·repeat' (first|refine qV ?_|refine qX ?_|((first|apply dX rfl|apply Da rfl rfl|apply Db rfl rfl qN);(focus ((try intro hg);first|exact qMo));constructor)|refine qP ?_)
  refine endM_r (.tmp rfl qF .nil) rfl ?_
  exact fun _=>rfl
 ·repeat' (first|refine qV ?_|refine qX ?_|((first|apply dX rfl|apply Da rfl rfl|apply Db rfl rfl qN);(focus ((try intro hg);first|exact qMo));constructor)|refine qP ?_)
  refine endM_r (.tmp rfl qF .nil) rfl ?_
  exact fun _=>rfl
 ·repeat' (first|refine qV ?_|refine qX ?_|((first|apply dX rfl|apply Da rfl rfl|apply Db rfl rfl qN);(focus ((try intro hg);first|exact qMo));constructor)|refine qP ?_)
  refine endM_r (.tmp rfl qF .nil) rfl ?_
  exact fun _=>rfl
 ·repeat' (first|refine qV ?_|refine qX ?_|((first|apply dX rfl|apply Da rfl rfl|apply Db rfl rfl qN);(focus ((try intro hg);first|exact qMo));constructor)|refine qP ?_)
  refine endM_r (.tmp rfl qF .nil) rfl ?_
  exact fun _=>rfl
 ·repeat' (first|refine qV ?_|refine qX ?_|((first|apply dX rfl|apply Da rfl rfl|apply Db rfl rfl qN);(focus ((try intro hg);first|exact qMo));constructor)|refine qP ?_)
  refine endM_r (.tmp rfl qF .nil) rfl ?_
  exact fun _=>rfl
 ·repeat' (first|refine qV ?_|refine qX ?_|((first|apply dX rfl|apply Da rfl rfl|apply Db rfl rfl qN);(focus ((try intro hg);first|exact qMo));constructor)|refine qP ?_)
  refine endM_r (.tmp rfl qF .nil) rfl ?_
  exact fun _=>rfl
set_option maxHeartbeats 4000000 in
/-- No link costs that. -/
theorem do_dear (d:Doing) (hk:d.kind=4) (hn:0≤d.n∧d.n<(ls.length:Int)) (hv:d.value<1∨200000<d.value) :
  FnM Tryz.prog 57 [.ptr 3 0,.dat false (.rp d.cells)] (memD nb v ls CS T) (.dat true (.int .i64 3)) (memD nb v ls CS T):=by
 refine fnM_of Tryz.func57 rfl rfl rfl ?_
 obtain⟨kind,dn,tree,value⟩:=d
 simp only at hk hn hv
 simp only[envD,memD,Doing.cells]
 by_cases h0:value<1
 ·repeat' (first|refine qV ?_|refine qX ?_|((first|apply dX rfl|apply Da rfl rfl|apply Db rfl rfl qN);(focus ((try intro hg);first|exact qMo));constructor)|refine qP ?_)
  refine endM_r (.tmp rfl qF .nil) rfl ?_
  exact fun _=>rfl
 ·repeat' (first|refine qV ?_|refine qX ?_|((first|apply dX rfl|apply Da rfl rfl|apply Db rfl rfl qN);(focus ((try intro hg);first|exact qMo));constructor)|refine qP ?_)
  refine endM_r (.tmp rfl qF .nil) rfl ?_
  exact fun _=>rfl
set_option maxHeartbeats 4000000 in
/-- There is no such thing to do. -/
theorem do_kind (d:Doing) (h2:d.kind≠2) (h3:d.kind≠3) (h4:d.kind≠4) (h5:d.kind≠5) :
  FnM Tryz.prog 57 [.ptr 3 0,.dat false (.rp d.cells)] (memD nb v ls CS T) (.dat true (.int .i64 1)) (memD nb v ls CS T):=by
 refine fnM_of Tryz.func57 rfl rfl rfl ?_
 obtain⟨kind,dn,tree,value⟩:=d
 simp only at h2 h3 h4 h5
 simp only[envD,memD,Doing.cells]
 repeat' (first|refine qV ?_|refine qX ?_|((first|apply dX rfl|apply Da rfl rfl|apply Db rfl rfl qN);(focus ((try intro hg);first|exact qMo));constructor)|refine qP ?_)
 refine endM_r (.tmp rfl qF .nil) rfl ?_
 exact fun _=>rfl
end
end Go.Proofs.YtcdhlofhhcgohaaGreat
namespace Go.Proofs.YtcdhlofhhcgohaaGreat
open Go.RowKit
def memQ (nb v:Nat) (ls:List Link) (CS:List D) (B:Box) (T:Mem):Mem:=memD nb v ls CS ((960,B)::T)
def netQ (KT:List Nat):List Nat:=3::941::950::960::KT
structure FrmT (CS:List D) (B:Box) (T:Mem) (KT:List Nat):Prop where
 out:∀ g,g∉KT→T.at g = .gone
 row:∀ g,T.at g = .gone∨∃ ver sz xs,T.at g = .row ver false true sz xs
 cs:∀ d∈CS,∀ g,refD d=some g→g=960∨g∈KT
 b:B = .gone∨∃ ver sz xs,B = .row ver false true sz xs
theorem memQ_at {nb v:Nat} {ls:List Link} {CS:List D} {B:Box} {T:Mem} (g:Nat):Mem.at (memQ nb v ls CS B T) g=if 3=g then .cells false true [.sl 950 nb,.own 941 v 0 ls.length]else if 941=g then .row v false true 6 (ls.map linkV)else if 950=g then .cells false true CS else if 960=g then B else T.at g:=by
 unfold memQ memD
 show look Box.gone _ g=_
 rw[look_cons,look_cons,look_cons,look_cons];rfl
section
variable {nb v : Nat} {ls : List Link} {CS : List D} {B : Box} {T : Mem} {KT : List Nat} (h : FrmT CS B T KT)
include h
theorem memQ_out (g:Nat) (hg:g∉netQ KT):Mem.at (memQ nb v ls CS B T) g = .gone:=by
 unfold netQ at hg
 simp only[List.mem_cons,not_or]at hg
 rw[memQ_at,if_neg (fun e=>hg.1 e.symm),if_neg (fun e=>hg.2.1 e.symm),if_neg (fun e=>hg.2.2.1 e.symm),if_neg (fun e=>hg.2.2.2.1 e.symm)]
 exact h.out g hg.2.2.2.2
theorem memQ_cl (g:Nat) (frz nw:Bool) (cs:List D) (hg:Mem.at (memQ nb v ls CS B T) g = .cells frz nw cs):∀ d∈cs,inKD (netQ KT) d:=by
 rw[memQ_at]at hg
 split at hg
 ·injection hg with _ _ hg
  subst hg
  intro d hd g hr
  rcases List.mem_cons.1 hd with rfl|hd
  ·injection hr with hr;subst hr;rfl
  ·rcases List.mem_cons.1 hd with rfl|hd
   ·injection hr with hr;subst hr;rfl
   ·cases hd
 ·split at hg
  ·cases hg
  ·split at hg
   ·injection hg with _ _ hg
    subst hg
    intro d hd g hr
    refine has_iff.2 ?_
    unfold netQ
    rcases h.cs d hd g hr with rfl|hk
    ·simp
    ·simp[hk]
   ·split at hg
    ·rcases h.b with e|⟨_,_,_,e⟩<;>rw[e]at hg<;>cases hg
    ·rcases h.row g with e|⟨_,_,_,e⟩<;>rw[e]at hg<;>cases hg
theorem memQ_mut (g:Nat) (hg:Mem.at (memQ nb v ls CS B T) g ≠ .gone):(Mem.at (memQ nb v ls CS B T) g).mut=true:=by
 rw[memQ_at]at hg ⊢
 split
 ·rfl
 ·split
  ·rfl
  ·split
   ·rfl
   ·rename_i h1 h2 h3
    rw[if_neg h1,if_neg h2,if_neg h3]at hg
    split
    ·rename_i h4
     rw[if_pos h4]at hg
     rcases h.b with e|⟨_,_,_,e⟩
     ·exact absurd e hg
     ·rw[e];rfl
    ·rename_i h4
     rw[if_neg h4]at hg
     rcases h.row g with e|⟨_,_,_,e⟩
     ·exact absurd e hg
     ·rw[e];rfl
end
attribute [local irreducible] SStep DW DWS DWin DOps thenQ inBlk loopQ loopQS endM retQ retQG FnF FnG FnI FnM Wk IntKind.wrap IntKind.andI IntKind.orI IntKind.xorI IntKind.andNotI IntKind.shlI IntKind.shrI
section
variable (nb v : Nat) (ls : List Link) (CS : List D) (T : Mem)
set_option maxHeartbeats 4000000 in
theorem prior_none (d:Doing) (hn:d.n<0∨(nb:Int)≤d.n):FnM Tryz.prog 104 [.ptr 3 0,.dat false (.rp d.cells)] (memD nb v ls CS T) (.dat true (.int .i64 6)) (memD nb v ls CS T):=by
 refine fnM_of Tryz.func104 rfl rfl rfl ?_
 obtain⟨kind,dn,tree,value⟩:=d
 simp only at hn
 simp only[envD,memD,Doing.cells]
 by_cases h0:dn<0
 ·repeat' (first|refine qV ?_|refine qX ?_|((first|apply dX rfl|apply Da rfl rfl|apply Db rfl rfl qN);(focus ((try intro hg);first|exact S_len_sl rfl|exact qMo));constructor)|refine qP ?_)
  refine endM_r (.tmp rfl qF .nil) rfl ?_
  exact fun _=>rfl
 ·repeat' (first|refine qV ?_|refine qX ?_|((first|apply dX rfl|apply Da rfl rfl|apply Db rfl rfl qN);(focus ((try intro hg);first|exact S_len_sl rfl|exact qMo));constructor)|refine qP ?_)
  refine endM_r (.tmp rfl qF .nil) rfl ?_
  exact fun _=>rfl
set_option maxHeartbeats 4000000 in
theorem prior_bad (d:Doing) (hn:0≤d.n∧d.n<(nb:Int)) (hv:d.tree<0∨15<d.tree∨d.value<0∨61440<d.value∨d.value.tmod 4096≠0):FnM Tryz.prog 104 [.ptr 3 0,.dat false (.rp d.cells)] (memD nb v ls CS T) (.dat true (.int .i64 3)) (memD nb v ls CS T):=by
 refine fnM_of Tryz.func104 rfl rfl rfl ?_
 obtain⟨kind,dn,tree,value⟩:=d
 simp only at hn hv
 simp only[envD,memD,Doing.cells]
 by_cases h0:tree<0
 ·repeat' (first|refine qV ?_|refine qX ?_|((first|apply dX rfl|apply Da rfl rfl|apply Db rfl rfl qN);(focus ((try intro hg);first|exact S_len_sl rfl|exact qMo));constructor)|refine qP ?_)
  refine endM_r (.tmp rfl qF .nil) rfl ?_
  exact fun _=>rfl
 by_cases h1:15<tree
 ·repeat' (first|refine qV ?_|refine qX ?_|((first|apply dX rfl|apply Da rfl rfl|apply Db rfl rfl qN);(focus ((try intro hg);first|exact S_len_sl rfl|exact qMo));constructor)|refine qP ?_)
  refine endM_r (.tmp rfl qF .nil) rfl ?_
  exact fun _=>rfl
 by_cases h2:value<0
 ·repeat' (first|refine qV ?_|refine qX ?_|((first|apply dX rfl|apply Da rfl rfl|apply Db rfl rfl qN);(focus ((try intro hg);first|exact S_len_sl rfl|exact qMo));constructor)|refine qP ?_)
  refine endM_r (.tmp rfl qF .nil) rfl ?_
  exact fun _=>rfl
 by_cases h3:61440<value
 ·repeat' (first|refine qV ?_|refine qX ?_|((first|apply dX rfl|apply Da rfl rfl|apply Db rfl rfl qN);(focus ((try intro hg);first|exact S_len_sl rfl|exact qMo));constructor)|refine qP ?_)
  refine endM_r (.tmp rfl qF .nil) rfl ?_
  exact fun _=>rfl
 ·have h4:value.tmod 4096≠0:=by omega
  repeat' (first|refine qV ?_|refine qX ?_|((first|apply dX rfl|apply Da rfl rfl|apply Db rfl rfl qN);(focus ((try intro hg);first|exact S_len_sl rfl|exact qMo));constructor)|refine qP ?_)
  refine endM_r (.tmp rfl qF .nil) rfl ?_
  exact fun _=>rfl
end
theorem at_swap {x x' y y':Box} {M:Mem} (g:Nat):Mem.at ((950,x)::(960,y)::(960,y')::(950,x')::M) g=Mem.at ((960,y)::(950,x)::M) g:=by
 show look Box.gone _ g=look Box.gone _ g
 rw[look_cons,look_cons,look_cons,look_cons,look_cons,look_cons]
 by_cases h1:950=g
 ·rw[if_pos h1,if_neg (by omega),if_pos h1]
 ·rw[if_neg h1,if_neg h1,if_neg h1]
  by_cases h2:960=g
  ·rw[if_pos h2,if_pos h2]
  ·rw[if_neg h2,if_neg h2,if_neg h2]
theorem at_same {x y:Box} {b3 b941:Box} {T:Mem} (g:Nat):Mem.at ((3,b3)::(941,b941)::(950,x)::(960,y)::T) g=Mem.at ((960,y)::(950,x)::(3,b3)::(941,b941)::(950,x)::(960,y)::T) g:=by
 show look Box.gone _ g=look Box.gone _ g
 rw[look_cons,look_cons,look_cons,look_cons,look_cons,look_cons,look_cons,look_cons,look_cons,look_cons]
 by_cases h1:960=g
 ·rw[if_pos h1,if_pos h1,if_neg (by omega),if_neg (by omega),if_neg (by omega)]
 ·simp only[if_neg h1]
  by_cases h2:950=g
  ·simp only[if_pos h2]
   rw[if_neg (by omega),if_neg (by omega)]
  ·simp only[if_neg h2]
theorem at_60 {y y' x:Box} {M:Mem} (g:Nat):Mem.at ((960,y)::(960,y')::(950,x)::M) g=Mem.at ((960,y)::(950,x)::M) g:=at_two g
def padI (ps:List Int) (k:Nat):List Int:=ps++List.replicate k 32768
theorem padI_len (ps:List Int) (k:Nat):(padI ps k).length=ps.length+k:=by unfold padI;simp
theorem padI_step (ps:List Int) (k:Nat):padI ps k++[32768]=padI ps (k+1):=by unfold padI;rw[List.append_assoc,List.replicate_succ']
section
variable (nb v : Nat) (ls : List Link) (CS : List D) (T : Mem)
set_option maxHeartbeats 4000000 in
theorem prior_set (d:Doing) (A:Nat) (hA:d.n=A) (hn:A<nb) (tr:Nat) (htr:d.tree=tr) (hv:tr≤15∧0≤d.value∧d.value≤61440∧d.value.tmod 4096=0) (ps:List Int) (_hps:ps.length≤16) (hCS:CS.length=nb*5) :
  FnM Tryz.prog 104 [.ptr 3 0,.dat false (.rp d.cells)] (memQ nb v ls (CS.set (A*5+1) (.own 960 0 0 ps.length)) (.row 0 false true 1 (ps.map intV1)) T) (.dat true (.int .i64 0))
   ((960,.row (tr+1-ps.length) false true 1 ((setPrio ps tr d.value).map intV1))::(950,.cells false true (CS.set (A*5+1) (.own 960 (tr+1-ps.length) 0 (setPrio ps tr d.value).length)))::memQ nb v ls (CS.set (A*5+1) (.own 960 0 0 ps.length)) (.row 0 false true 1 (ps.map intV1)) T):=by
 refine fnM_of Tryz.func104 rfl rfl rfl ?_
 obtain⟨kind,dn,tree,value⟩:=d
 simp only at hA htr hv ⊢
 subst hA
 subst htr
 obtain⟨v1,v2,v3,v4⟩:=hv
 simp only[envD,memQ,memD,Doing.cells]
 have hAl:A*5+1<CS.length:=by omega
 have hg:∀ x:D,(CS.set (A*5+1) x)[((A:Nat):Int).toNat*5+1]? = some x:=fun x=>by rw[Int.toNat_natCast,List.getElem?_set_self hAl]
 have hb:∀ x:D,Nat.ble (((A:Nat):Int).toNat*5+1+1) (CS.set (A*5+1) x).length=true:=fun x=>Nat.ble_eq_true_of_le (by rw[List.length_set,Int.toNat_natCast];omega)
 have hs:∀ x y:D,splice (CS.set (A*5+1) x) (((A:Nat):Int).toNat*5+1) [y]=CS.set (A*5+1) y:=fun x y=>by
  rw[Int.toNat_natCast,splice_set (by rw[List.length_set];exact hAl),List.set_set]
 generalize A*5+1=p at hg hb hs
 repeat' (first|refine qV ?_|refine qX ?_|((first|apply dX rfl|apply Da rfl rfl|apply Db rfl rfl qN);(focus ((try intro hg);first|exact S_len_sl rfl|exact S_ix_sl rfl rfl (by omega) (by omega)|exact qMo));constructor)|refine qP ?_)
 refine DWS_loop (fun k:Nat=>⟨[(1,.dat false (.rp [.int .i64 kind,.int .i64 A,.int .i64 tr,.int .i64 value])),(5,.ptr 950 (((A:Nat):Int).toNat*5))],
   (960,.row k false true 1 ((padI ps k).map intV1))::(950,.cells false true (CS.set p (.own 960 k 0 (padI ps k).length)))::(3,.cells false true [.sl 950 nb,.own 941 v 0 ls.length])::(941,.row v false true 6 (ls.map linkV))::(950,.cells false true (CS.set p (.own 960 0 0 ps.length)))::(960,.row 0 false true 1 (ps.map intV1))::T,100⟩)
  (fun k=>k≤tr+1-ps.length) (fun k=>tr+1-ps.length-k) 0 (Nat.zero_le _)
  ⟨rfl,fun g=>by rw[show padI ps 0=ps from by unfold padI;simp];exact at_same g,by repeat' (first|exact slots_nil|exact .inl rfl|exact .inr (.inl ⟨_,rfl,rfl⟩)|apply slots_cons)⟩ (fun k hk=>?_)
 have hpl:=padI_len ps k
 by_cases hlt:k<tr+1-ps.length
 ·have hst:=padI_step ps k
  repeat' (first|refine qV ?_|refine qX ?_|((first|apply dX rfl|apply Da rfl rfl|apply Db rfl rfl qN);(focus ((try intro hg);first|exact S_load_ptr rfl rfl (hg (.own 960 k 0 (padI ps k).length))|exact S_appM (f:=intV1) (us:=padI ps k) (bs := [32768]) rfl rfl (.dat _ _) rfl rfl (.inr ⟨rfl,inferInstance⟩) rfl (by simp only[List.length_singleton];omega)|exact S_store rfl rfl rfl rfl rfl (hb (.own 960 k 0 (padI ps k).length))|exact qMo));constructor)|refine qP ?_)
  refine loopS_again (k+1) hlt (by omega) ⟨rfl,fun g=>?_,by repeat' (first|exact slots_nil|exact .inl rfl|exact .inr (.inl ⟨_,rfl,rfl⟩)|apply slots_cons)⟩
  rw[hst,hs]
  exact at_swap g
 ·have hkk:k=tr+1-ps.length:=by omega
  have htr:tr<(padI ps k).length:=by omega
  have hu:(padI ps k)[(tr:Int).toNat]? = some ((padI ps k)[tr]'htr):=List.getElem?_eq_getElem _
  have hsp:setPrio ps tr value=(padI ps k).set tr value:=by unfold setPrio padI;rw[hkk]
  have hsl:(setPrio ps tr value).length=(padI ps k).length:=by rw[hsp,List.length_set]
  repeat' (first|refine qV ?_|refine qX ?_|((first|apply dX rfl|apply Da rfl rfl|apply Db rfl rfl qN);(focus ((try intro hg);first|exact S_load_ptr rfl rfl (hg (.own 960 k 0 (padI ps k).length))|exact S_ixO rfl rfl rfl (by omega) (by omega)|exact S_storeM (f:=intV1) (a:=value) rfl rfl hu rfl rfl (.inr ⟨rfl,inferInstance⟩) rfl rfl|exact qMo));constructor)|refine qP ?_)
  refine endM_r (.tmp rfl qF .nil) rfl ?_
  rw[hsl,hsp,←hkk]
  exact at_60
end
end Go.Proofs.YtcdhlofhhcgohaaGreat
namespace Go.Proofs.YtcdhlofhhcgohaaGreat
open Go.RowKit
theorem put2_mut {ver sz:Nat} {xs:List (List V)} {C':List D} {M:Mem} (h:∀ g,M.at g ≠ .gone→(M.at g).mut=true) (g:Nat) (hg:Mem.at ((960,.row ver false true sz xs)::(950,.cells false true C')::M) g ≠ .gone):(Mem.at ((960,.row ver false true sz xs)::(950,.cells false true C')::M) g).mut=true:=by
 have e:Mem.at ((960,.row ver false true sz xs)::(950,.cells false true C')::M) g=if 960=g then .row ver false true sz xs else if 950=g then .cells false true C' else M.at g:=by
  show look Box.gone _ g=_
  rw[look_cons,look_cons];rfl
 rw[e]at hg ⊢
 split
 ·rfl
 ·split
  ·rfl
  ·rename_i h1 h2
   rw[if_neg h1,if_neg h2]at hg
   exact h g hg
theorem put2_keys {ver sz:Nat} {xs:List (List V)} {C':List D} (KT:List Nat):∀ g,g∈([(960,.row ver false true sz xs),(950,.cells false true C')]:Mem).map (·.1)→g∈netQ KT:=fun g h=>by
 simp only[List.map_cons,List.map_nil,List.mem_cons,List.mem_nil_iff,or_false]at h
 unfold netQ
 rcases h with rfl|rfl<;>simp
attribute [local irreducible] SStep DW DWS DWin DOps thenQ inBlk loopQ loopQS endM retQ retQG FnF FnG FnI FnM Wk IntKind.wrap IntKind.andI IntKind.orI IntKind.xorI IntKind.andNotI IntKind.shlI IntKind.shrI
section
variable (nb v : Nat) (ls : List Link) (CS : List D) (B : Box) (T : Mem) (KT : List Nat) (hF : FrmT CS B T KT)
include hF
theorem do_prior0 (d:Doing) (hk:d.kind=5) (r:Int) (hc:FnM Tryz.prog 104 [.ptr 3 0,.dat false (.rp d.cells)] (memQ nb v ls CS B T) (.dat true (.int .i64 r)) (memQ nb v ls CS B T)) :
  FnM Tryz.prog 57 [.ptr 3 0,.dat false (.rp d.cells)] (memQ nb v ls CS B T) (.dat true (.int .i64 r)) (memQ nb v ls CS B T):=by
 refine fnM_of Tryz.func57 rfl rfl rfl ?_
 obtain⟨kind,dn,tree,value⟩:=d
 simp only at hk
 subst hk
 have hcl:=memQ_cl (nb:=nb) (v:=v) (ls:=ls) hF
 have hmu:=memQ_mut (nb:=nb) (v:=v) (ls:=ls) hF
 have hou:=memQ_out (nb:=nb) (v:=v) (ls:=ls) hF
 simp only[envD,Doing.cells]at hc ⊢
 repeat' (first|refine dstep rfl (.plain rfl (S_callW (netQ KT) [] hc rfl (fun _ _=>rfl) hou hcl hmu (fun _=>rfl) (fun _ h=>by cases h) rfl rfl rfl)) ?_|refine qV ?_|refine qX ?_|((first|apply dX rfl|apply Da rfl rfl|apply Db rfl rfl qN);(focus ((try intro hg);first|exact qMo));constructor)|refine qP ?_)
 refine endM_r (.tmp rfl qF .nil) rfl ?_
 exact fun _=>rfl
theorem do_prior1 (d:Doing) (hk:d.kind=5) (ver sz:Nat) (xs:List (List V)) (C':List D) (hc:FnM Tryz.prog 104 [.ptr 3 0,.dat false (.rp d.cells)] (memQ nb v ls CS B T) (.dat true (.int .i64 0)) ((960,.row ver false true sz xs)::(950,.cells false true C')::memQ nb v ls CS B T)) :
  FnM Tryz.prog 57 [.ptr 3 0,.dat false (.rp d.cells)] (memQ nb v ls CS B T) (.dat true (.int .i64 0)) ((960,.row ver false true sz xs)::(950,.cells false true C')::memQ nb v ls CS B T):=by
 refine fnM_of Tryz.func57 rfl rfl rfl ?_
 obtain⟨kind,dn,tree,value⟩:=d
 simp only at hk
 subst hk
 have hcl:=memQ_cl (nb:=nb) (v:=v) (ls:=ls) hF
 have hmu:=put2_mut (ver:=ver) (sz:=sz) (xs:=xs) (C':=C') (memQ_mut (nb:=nb) (v:=v) (ls:=ls) hF)
 have hou:=memQ_out (nb:=nb) (v:=v) (ls:=ls) hF
 simp only[envD,Doing.cells]at hc ⊢
 repeat' (first|refine dstep rfl (.plain rfl (S_callW (netQ KT) [(960,.row ver false true sz xs),(950,.cells false true C')] hc rfl (fun _ _=>rfl) hou hcl hmu (fun _=>rfl) (put2_keys KT) rfl rfl rfl)) ?_|refine qV ?_|refine qX ?_|((first|apply dX rfl|apply Da rfl rfl|apply Db rfl rfl qN);(focus ((try intro hg);first|exact qMo));constructor)|refine qP ?_)
 refine endM_r (.tmp rfl qF .nil) rfl ?_
 exact fun _=>rfl
end
end Go.Proofs.YtcdhlofhhcgohaaGreat
