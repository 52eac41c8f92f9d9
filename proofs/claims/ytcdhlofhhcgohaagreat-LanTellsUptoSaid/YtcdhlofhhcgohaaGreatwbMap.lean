/- Maps of one's own whose keys and values are numbers. -/
import Derived.Test.YtcdhlofhhcgohaaGreatwcRgW
import Derived.Test.YtcdhlofhhcgohaaGreatwTy
import Derived.MapKept
import Derived.WideMake
namespace Go.Proofs.YtcdhlofhhcgohaaGreat
open Go.RowKit
def znd (ws:List Way):Nat→Int
 | 0=>0
 | k+1=>(ws[k]?.map Way.vid).getD 0
theorem zmw {l:List UInt8} {k:Nat} {c:UInt8} (h:l[k]? = some c):(l.take (k+1)).all okC=((l.take k).all okC && okC c):=by
 rw[List.take_add_one,h,List.all_append]
 simp
theorem zoG {l:List UInt8} {k:Nat} {c:UInt8} (h:l[k]? = some c) (hc:okC c=false):l.all okC=false:=by
 rw[Bool.eq_false_iff]
 intro ha
 have:=List.all_eq_true.1 ha c (List.mem_of_getElem? h)
 rw[hc]at this
 cases this
attribute [local irreducible] SStep DW DWin DOps zaG zaE zaJ retQ zaN FnF FnG Wk IntKind.wrap IntKind.andI IntKind.orI IntKind.xorI IntKind.andNotI IntKind.shlI IntKind.shrI
set_option maxHeartbeats 2000000 in
theorem zfV (r:Region) (hl:r.ways.length≤9223372036854775807):FnF Tryz.prog 110 [r.v] (.int .i64 r.wrong):=by
 refine zal Tryz.func110 rfl rfl rfl ?_
 simp only[zap]
 by_cases ha:r.name.length<1
 ·repeat' (first|refine qU ?_|((first|apply dX rfl|apply Da rfl rfl|apply Db rfl rfl qN);(focus ((try intro hg);first|exact zab (zam rfl rfl) (decide_eq_true (by omega:(r.name.length:Int)<1))|exact qM));constructor)|refine qP ?_)
  refine ret1 rfl (.inl rfl) ?_
  congr 1;unfold Region.wrong
  rw[if_pos (.inl ha)]
 by_cases hb2:32<r.name.length
 ·repeat' (first|refine qU ?_|((first|apply dX rfl|apply Da rfl rfl|apply Db rfl rfl qN);(focus ((try intro hg);first|exact zab (zam rfl rfl) (decide_eq_false (by omega:¬(r.name.length:Int)<1))|exact zab (zbr rfl rfl) (decide_eq_true (by omega:(32:Int)<(r.name.length:Int)))|exact qM));constructor)|refine qP ?_)
  refine ret1 rfl (.inl rfl) ?_
  congr 1;unfold Region.wrong
  rw[if_pos (.inr hb2)]
 repeat' (first|refine qU ?_|((first|apply dX rfl|apply Da rfl rfl|apply Db rfl rfl qN);(focus ((try intro hg);first|exact zab (zam rfl rfl) (decide_eq_false (by omega:¬(r.name.length:Int)<1))|exact zab (zbr rfl rfl) (decide_eq_false (by omega:¬(32:Int)<(r.name.length:Int)))|exact qM));constructor)|refine qP ?_)
 refine zag (fun k:Nat=>⟨[(1,.ptr 1 0),(18,.dat true (.int .i64 r.name.length)),(19,.dat true (.int .i64 k))],[(1,.cells false true (r.cells.map (.dat false)))],86⟩)
  (fun k=>k≤r.name.length∧(r.name.take k).all okC=true) (fun k=>r.name.length-k) 0 ⟨Nat.zero_le _,rfl⟩
  (Wk_g some rfl rfl kq) (fun k hR=>?_)
 obtain⟨hk,hall⟩:=hR
 have hnn:¬(r.name.length<1∨32<r.name.length):=by omega
 by_cases hlt:k<r.name.length
 ·have hx:r.name[(k:Int).toNat]? = some r.name[k]:=by simp[hlt]
  have hx':r.name[k]? = some r.name[k]:=by simp[hlt]
  have hat:=zmw hx'
  generalize r.name[k]=c at hx hx' hat
  have hc:okC c=false↔((c.toNat:Int)<32∨(126:Int)<c.toNat):=by unfold okC;simp;omega
  repeat' (first|refine qU ?_|refine zat rfl (fun hb=>?_) (fun hb=>?_)|((first|apply dX rfl|apply Da rfl rfl|apply Db rfl rfl qN);(focus ((try intro hg);first|exact zab (zam rfl rfl) (decide_eq_true (by omega:(k:Int)<(r.name.length:Int)))|exact zqN Tryz.underlying9 rfl rfl (by omega) hx|exact qM));constructor)|refine qP ?_)
  ·refine ret1 rfl (.inl rfl) ?_
   simp only[Bool.or_eq_true,decide_eq_true_eq]at hb
   congr 1;unfold Region.wrong
   rw[if_neg hnn,if_pos (zoG hx' (hc.2 hb))]
  ·simp only[Bool.or_eq_false_iff,decide_eq_false_iff_not]at hb
   refine zaa (k+1) ⟨hlt,?_⟩ (by omega) (Wk_g some rfl rfl kq)
   rw[hat,hall]
   cases ho:okC c with
   | true=>rfl
   | false=>have:=hc.1 ho;omega
 ·rw [List.take_of_length_le (by omega)]at hall
  have hall':¬r.name.all okC=false:=by rw[hall];simp
  by_cases h0:r.rev<0
  ·repeat' (first|refine qU ?_|((first|apply dX rfl|apply Da rfl rfl|apply Db rfl rfl qN);(focus ((try intro hg);first|exact zab (zam rfl rfl) (decide_eq_false (by omega:¬(k:Int)<(r.name.length:Int)))|exact zab (zam rfl rfl) (decide_eq_true h0)|exact qM));constructor)|refine qP ?_)
   refine ret1 rfl (.inl rfl) ?_
   congr 1;unfold Region.wrong
   rw[if_neg hnn,if_neg hall',if_pos (.inl h0)]
  by_cases h6:65535<r.rev
  ·repeat' (first|refine qU ?_|((first|apply dX rfl|apply Da rfl rfl|apply Db rfl rfl qN);(focus ((try intro hg);first|exact zab (zam rfl rfl) (decide_eq_false (by omega:¬(k:Int)<(r.name.length:Int)))|exact zab (zam rfl rfl) (decide_eq_false h0)|exact zab (zbr rfl rfl) (decide_eq_true h6)|exact qM));constructor)|refine qP ?_)
   refine ret1 rfl (.inl rfl) ?_
   congr 1;unfold Region.wrong
   rw[if_neg hnn,if_neg hall',if_pos (.inr h6)]
  have hw0:r.wrong=zf8 0 r.ways:=by unfold Region.wrong;rw[if_neg hnn,if_neg hall',if_neg (by omega)]
  rw[hw0]
  have hml:(r.ways.map wayV).length=r.ways.length:=by simp
  repeat' (first|refine qU ?_|((first|apply dX rfl|apply Da rfl rfl|apply Db rfl rfl qN);(focus ((try intro hg);first|exact zab (zam rfl rfl) (decide_eq_false (by omega:¬(k:Int)<(r.name.length:Int)))|exact zab (zam rfl rfl) (decide_eq_false h0)|exact zab (zbr rfl rfl) (decide_eq_false h6)|exact qM));constructor)|refine qP ?_)
  refine zag (fun k:Nat=>⟨[(1,.ptr 1 0),(44,.dat false (.slice (r.ways.map wayV))),(45,.dat true (.int .i64 (r.ways.map wayV).length)),(46,.dat true (.int .i64 k))],[(1,.cells false true (r.cells.map (.dat false)))],86⟩)
   (fun k=>k≤r.ways.length∧zf8 0 r.ways=zf8 (znd r.ways k) (r.ways.drop k)) (fun k=>r.ways.length-k) 0 ⟨Nat.zero_le _,rfl⟩
   (Wk_g some rfl rfl kq) (fun k hR=>?_)
  obtain⟨hk,hw⟩:=hR
  by_cases hlt:k<r.ways.length
  ·have hx:r.ways[(k:Int).toNat]? = some r.ways[k]:=by simp[hlt]
   have hn:r.ways.drop k=r.ways[k]::r.ways.drop (k+1):=List.drop_eq_getElem_cons hlt
   have hlast:znd r.ways (k+1)=(r.ways[k]).vid:=by simp[znd,hlt]
   generalize r.ways[k]=t at hx hn hlast
   rw[hn,zf8]at hw
   rcases k with - | j
   ·have h00:znd r.ways 0=0:=rfl
    repeat' (first|refine qU ?_|refine zat rfl (fun hb=>?_) (fun hb=>?_)|((first|apply dX rfl|apply Da rfl rfl|apply Db rfl rfl qN);(focus ((try intro hg);first|exact zab (zam rfl rfl) (decide_eq_true (by omega:((0:Nat):Int)<((r.ways.map wayV).length:Int)))|exact zaf rfl rfl (by omega) hx|exact zab (b:=false) (zbr rfl rfl) rfl|exact qM));constructor)|refine qP ?_)
    ·refine ret1 rfl (.inl rfl) ?_
     simp only[Bool.or_eq_true,decide_eq_true_eq]at hb
     rw[hw,if_pos (by unfold Way.bad;omega)]
    ·simp only[Bool.or_eq_false_iff,decide_eq_false_iff_not]at hb
     refine zaa (0+1) ⟨hlt,?_⟩ (by omega) (Wk_g some rfl rfl kq)
     rw[hw,if_neg (by unfold Way.bad;omega),h00,if_neg (by omega),hlast]
   ·have hj:j<r.ways.length:=by omega
    have hx2:r.ways[(((j+1:Nat):Int)-1).toNat]? = some r.ways[j]:=by
     rw[show(((j+1:Nat):Int)-1).toNat=j by omega];exact List.getElem?_eq_getElem hj
    have h00:znd r.ways (j+1)=(r.ways[j]).vid:=by simp[znd,hj]
    generalize r.ways[j]=q at hx2 h00
    repeat' (first|refine qU ?_|refine zat rfl (fun hb=>?_) (fun hb=>?_)|((first|apply dX rfl|apply Da rfl rfl|apply Db rfl rfl qN);(focus ((try intro hg);first|exact zab (zam rfl rfl) (decide_eq_true (by omega:((j+1:Nat):Int)<((r.ways.map wayV).length:Int)))|exact zaf rfl rfl (by omega) hx|exact zaf rfl rfl (by omega) hx2|exact zab (zbr rfl rfl) (decide_eq_true (by omega:(0:Int)<((j+1:Nat):Int)))|exact qM));constructor)|refine qP ?_)
    ·refine ret1 rfl (.inl rfl) ?_
     simp only[Bool.or_eq_true,decide_eq_true_eq]at hb
     rw[hw,if_pos (by unfold Way.bad;omega)]
    ·rename_i hb1
     simp only[Bool.or_eq_false_iff,decide_eq_true_eq,decide_eq_false_iff_not]at hb hb1
     refine ret1 rfl (.inl rfl) ?_
     rw[hw,if_neg (by unfold Way.bad;omega),h00,if_pos (by omega)]
    ·rename_i hb1
     simp only[Bool.or_eq_false_iff,decide_eq_false_iff_not]at hb hb1
     refine zaa (j+1+1) ⟨hlt,?_⟩ (by omega) (Wk_g some rfl rfl kq)
     rw[hw,if_neg (by unfold Way.bad;omega),h00,if_neg (by omega),hlast]
  ·repeat' (first|refine qU ?_|((first|apply dX rfl|apply Da rfl rfl|apply Db rfl rfl qN);(focus ((try intro hg);first|exact zab (zam rfl rfl) (decide_eq_false (by omega:¬(k:Int)<((r.ways.map wayV).length:Int)))|exact qM));constructor)|refine qP ?_)
   refine ret1 rfl (.inl rfl) ?_
   rw[hw,List.drop_eq_nil_of_le (by omega)]
   rfl
end Go.Proofs.YtcdhlofhhcgohaaGreat
namespace Go.Proofs.YtcdhlofhhcgohaaGreat
open Go.RowKit
attribute [local irreducible] SStep DW DWin DOps zaG zaE zaJ retQ zaN FnF FnG Wk
theorem zoH (x:Int):FnF Tryz.prog 199 [.int .u64 x] (.bool false):=by
 refine zal Tryz.func199 rfl rfl rfl ?_
 simp only[zap]
 repeat' (first|refine qU ?_|((first|apply dX rfl|apply Da rfl rfl|apply Db rfl rfl qN);(focus ((try intro hg);first|exact qM));constructor)|refine qP ?_)
 exact ret1 rfl (.inl rfl) (by simp)
theorem zkc (x:Int):FnF Tryz.prog 194 [.int .i64 x] (.bool false):=by
 refine zal Tryz.func194 rfl rfl rfl ?_
 simp only[zap]
 repeat' (first|refine qU ?_|((first|apply dX rfl|apply Da rfl rfl|apply Db rfl rfl qN);(focus ((try intro hg);first|exact qM));constructor)|refine qP ?_)
 exact ret1 rfl (.inl rfl) (by simp)
def cmpI (x y:Int):Int:=if x<y then -1 else if y<x then 1 else 0
theorem zoI (x y:Int):FnF Tryz.prog 177 [.int .u64 x,.int .u64 y] (.int .i64 (cmpI x y)):=by
 refine zal Tryz.func177 rfl rfl rfl ?_
 simp only[zap]
 repeat' (first|refine qU ?_|refine zat rfl (fun _=>?_) (fun _=>?_)|((first|apply dX rfl|apply Da rfl rfl|apply Db rfl rfl qN);(focus ((try intro hg);first|exact zac (zoH _) rfl|exact qM));constructor)|refine qP ?_)
 all_goals (refine ret1 rfl (.inl rfl) ?_;simp_all [cmpI];try omega)
theorem zoJ (x y:Int):FnF Tryz.prog 176 [.int .i64 x,.int .i64 y] (.int .i64 (cmpI x y)):=by
 refine zal Tryz.func176 rfl rfl rfl ?_
 simp only[zap]
 repeat' (first|refine qU ?_|refine zat rfl (fun _=>?_) (fun _=>?_)|((first|apply dX rfl|apply Da rfl rfl|apply Db rfl rfl qN);(focus ((try intro hg);first|exact zac (zkc _) rfl|exact qM));constructor)|refine qP ?_)
 all_goals (refine ret1 rfl (.inl rfl) ?_;simp_all [cmpI];try omega)
def ints (l:List Int):List (List V):=l.map fun x=>[.int .i64 x]
def orI : List Int→Int
 | []=>0
 | x::r=>if x=0 then orI r else x
theorem ziZ (l:List Int):(ints l).length=l.length:=by simp[ints]
theorem zqP {l:List Int} {k:Nat} (h:k<l.length):orI (l.drop k)=if l[k]=0 then orI (l.drop (k+1))else l[k]:=by
 rw[List.drop_eq_getElem_cons h];rfl
theorem zsf (l:List Int):FnF Tryz.prog 175 [.slice (ints l)] (.int .i64 (orI l)):=by
 refine zal Tryz.func175 rfl rfl rfl ?_
 simp only[zap]
 refine zbY 0 rfl (fun hlen=>?_)
 rw[ziZ]at hlen
 repeat' (first|refine qU ?_|((first|apply dX rfl|apply Da rfl rfl|apply Db rfl rfl qN);(focus ((try intro hg);first|exact qM));constructor)|refine qP ?_)
 refine zag (fun k:Nat=>⟨[(3,.dat true (.int .i64 0)),(6,.dat false (.slice (ints l))),(7,.dat true (.int .i64 (ints l).length)),(8,.dat true (.int .i64 k))],[],18⟩) (fun k=>k≤l.length∧orI l=orI (l.drop k)) (fun k=>l.length-k) 0 ⟨Nat.zero_le _,rfl⟩
  (Wk_g some rfl rfl kq) (fun k hR=>?_)
 obtain⟨hk,hor⟩:=hR
 by_cases hlt:k<l.length
 ·have hx:(ints l)[k]? = some [.int .i64 l[k]]:=by simp[ints,hlt]
  rw[zqP hlt]at hor
  repeat' (first|refine qU ?_|refine zat rfl (fun hb=>?_) (fun hb=>?_)|((first|apply dX rfl|apply Da rfl rfl|apply Db rfl rfl qN);(focus ((try intro hg);first|exact zaT rfl rfl (by omega) hx rfl|exact qM));constructor)|refine qP ?_)
  ·refine ret1 rfl (.inr (.int _ _)) ?_
   simp at hb
   rw[hor,if_neg hb]
  ·simp at hb
   exact zaa (k+1) ⟨hlt,by rw[hor,if_pos hb]⟩ (by omega) (Wk_g some rfl rfl kq)
  ·simp[ziZ]at hb;omega
 ·repeat' (first|refine qU ?_|refine zat rfl (fun hb=>?_) (fun hb=>?_)|((first|apply dX rfl|apply Da rfl rfl|apply Db rfl rfl qN);(focus ((try intro hg);first|exact qM));constructor)|refine qP ?_)
  ·simp[ziZ]at hb;omega
  ·refine ret1 rfl (.inl rfl) ?_
   rw[hor,List.drop_eq_nil_of_le (by omega)];rfl
end Go.Proofs.YtcdhlofhhcgohaaGreat
namespace Go.Proofs.YtcdhlofhhcgohaaGreat
open Go.RowKit
attribute [local irreducible] SStep DW DOps zaG zaE zaJ retQ FnF Wk
structure Vec where
 root:Int
 cost:Int
 bridge:Int
 port:Int
def Vec.cells (v:Vec):List V := [.int .u64 v.root,.int .i64 v.cost,.int .u64 v.bridge,.int .i64 v.port]
def Vec.v (v:Vec):V := .agg v.cells
def Vec.cmp (a b:Vec):Int:=orI [cmpI a.root b.root,cmpI a.cost b.cost,cmpI a.bridge b.bridge,cmpI a.port b.port]
theorem zcT (a b:Vec):FnF Tryz.prog 171 [a.v,b.v] (.int .i64 (a.cmp b)):=by
 refine zal Tryz.func171 rfl rfl rfl ?_
 simp only[zap]
 repeat' (first|refine qU ?_|((first|apply dX rfl|apply Da rfl rfl|apply Db rfl rfl qN);(focus ((try intro hg);first|exact zac (zoI _ _) rfl|exact zac (zoJ _ _) rfl|exact zac (zsf [_,_,_,_]) rfl|exact S_al rfl|exact S_bx rfl rfl|exact zbg rfl rfl rfl rfl rfl rfl|(apply Pu.ok;repeat' (first|rfl|exact .inK (by simp only[InK];omega)|exact .inK (by simp only[InK];simp at hg;omega)|exact .wr|constructor|decide|omega))));constructor)|refine qP ?_)
 exact ret1 rfl (.inl rfl) rfl
def zeL : Int:=1000000000
def Vec.over (v:Vec) (cost:Int):Option Vec:=if cost<0∨zeL<cost∨v.cost<0∨zeL-cost<v.cost then none else some { v with cost:=v.cost+cost }
def Vec.zero : Vec:=⟨0,0,0,0⟩
theorem zgm (v:Vec) (cost:Int):FnF Tryz.prog 170 [v.v,.int .i64 cost] (.tuple [((v.over cost).getD .zero).v,.bool (v.over cost).isSome]):=by
 refine zal Tryz.func170 rfl rfl rfl ?_
 simp only[zap]
 repeat' (first|refine qU ?_|refine zat rfl (fun hb=>?_) (fun hb=>?_)|((first|apply dX rfl|apply Da rfl rfl|apply Db rfl rfl qN);(focus ((try intro hg);first|exact S_al rfl|exact S_bx rfl rfl|exact zbg rfl rfl rfl rfl rfl rfl|(apply Pu.ok;repeat' (first|rfl|exact .inK (by simp only[InK];omega)|exact .inK (by simp only[InK];simp at hg;omega)|exact .wr|constructor|decide|omega))));constructor)|refine qP ?_)
 ·refine retN (.cellA inferInstance rfl rfl rfl rfl qF (.tmp rfl qF .nil)) ?_
  have hn:v.over cost=none:=by
   unfold Vec.over zeL
   rw[if_pos]
   simp at hb;omega
  rw[hn];rfl
 ·refine retN (.cellA inferInstance rfl rfl rfl rfl qF (.tmp rfl qF .nil)) ?_
  simp at hb
  have hn:v.over cost=some { v with cost:=v.cost+cost }:=by
   unfold Vec.over zeL
   rw[if_neg]
   omega
  rw[hn,wrap_in (by simp only[InK];omega)];rfl
end Go.Proofs.YtcdhlofhhcgohaaGreat
namespace Go.Proofs.YtcdhlofhhcgohaaGreat
open Go.RowKit
theorem Vec.ext4 {a b:Vec} (h1:a.root=b.root) (h2:a.cost=b.cost) (h3:a.bridge=b.bridge) (h4:a.port=b.port):a=b:=by
 cases a;cases b;simp_all
instance vecDec : DecidableEq Vec:=fun a b =>
 if h:a.root=b.root∧a.cost=b.cost∧a.bridge=b.bridge∧a.port=b.port then isTrue (Vec.ext4 h.1 h.2.1 h.2.2.1 h.2.2.2)else isFalse (fun e=>h (by subst e;exact⟨rfl,rfl,rfl,rfl⟩))
theorem Vec.cmp_neg {a b:Vec}:a.cmp b<0↔a.root<b.root∨(a.root=b.root∧(a.cost<b.cost∨(a.cost=b.cost∧(a.bridge<b.bridge∨(a.bridge=b.bridge∧a.port<b.port))))):=by
 unfold Vec.cmp
 simp only[orI,cmpI]
 repeat' split
 all_goals (first|omega|(constructor<;>intro h<;>omega))
end Go.Proofs.YtcdhlofhhcgohaaGreat
namespace Go.Proofs.YtcdhlofhhcgohaaGreat
open Go.RowKit
structure Offer where
  port:Int
  cost:Int
  age:Int
  vec:Vec
def Offer.cells (o:Offer):List V := [.int .i64 o.port,.int .i64 o.cost,.int .i64 o.age,.int .u64 o.vec.root,.int .i64 o.vec.cost,.int .u64 o.vec.bridge,.int .i64 o.vec.port]
def offers (l:List Offer):V := .slice (l.map Offer.cells)
structure Ch where
  best:Vec
  age:Int
  port:Int
def Ch.step (id:Int) (s:Ch) (o:Offer):Ch :=
  match o.vec.over o.cost with
  | none=>s
  | some v=>if o.port<0∨o.age<0∨20≤o.age∨id≤v.root then s
    else if(if s.port<0 then -1 else v.cmp s.best)<0∨((if s.port<0 then -1 else v.cmp s.best)=0∧o.port<s.port)then⟨v,o.age+1,o.port⟩else s
def Ch.start (id:Int):Ch:=⟨⟨id,0,0,0⟩,0, -1⟩
def zaK (id:Int) (l:List Offer):Ch:=l.foldl (Ch.step id) (.start id)
def Ch.says (id:Int) (s:Ch):Vec:=⟨s.best.root,s.best.cost,id,0⟩
theorem Ch.step_skip {id:Int} {c:Ch} {o:Offer} (h:(o.vec.over o.cost).isSome=true→0≤o.port→0≤o.age→o.age<20→id≤((o.vec.over o.cost).getD .zero).root):c.step id o=c:=by
  unfold Ch.step
  cases hv:o.vec.over o.cost with
  | none=>rfl
  | some v =>
    simp only[hv,Option.isSome_some,Option.getD_some,true_implies]at h
    simp only
    rw[if_pos]
    omega
theorem Ch.step_in {id:Int} {c:Ch} {o:Offer} (h0:(o.vec.over o.cost).isSome=true) (h1:0≤o.port) (h2:0≤o.age) (h3:o.age<20) (h4:((o.vec.over o.cost).getD .zero).root<id) :
    c.step id o=if(c.port<0∨((o.vec.over o.cost).getD .zero).cmp c.best<0∨(((o.vec.over o.cost).getD .zero).cmp c.best=0∧o.port<c.port))then⟨(o.vec.over o.cost).getD .zero,o.age+1,o.port⟩else c:=by
  unfold Ch.step
  cases hv:o.vec.over o.cost with
  | none=>simp[hv]at h0
  | some v =>
    simp only[hv,Option.getD_some]at h4 ⊢
    rw[if_neg (by omega)]
    by_cases hp:c.port<0
    · simp[hp]
    · simp[hp]
def Offer.good (id:Int) (o:Offer):Prop:=(o.vec.over o.cost).isSome=true∧0≤o.port∧0≤o.age∧o.age<20∧((o.vec.over o.cost).getD .zero).root<id
theorem Offer.good_true {id:Int} {o:Offer} (h:o.good id):((((!(o.vec.over o.cost).isSome) || decide (o.port<0)) || decide (o.age<0)) || decide (20≤o.age) || decide (id≤((o.vec.over o.cost).getD .zero).root))=false:=by
  obtain⟨h0,h1,h2,h3,h4⟩:=h
  rw[h0,decide_eq_false (by omega),decide_eq_false (by omega),decide_eq_false (by omega),decide_eq_false (by omega)];rfl
theorem Offer.good_false {id:Int} {o:Offer} (h:¬o.good id):((((!(o.vec.over o.cost).isSome) || decide (o.port<0)) || decide (o.age<0)) || decide (20≤o.age) || decide (id≤((o.vec.over o.cost).getD .zero).root))=true:=by
  cases hs:((((!(o.vec.over o.cost).isSome) || decide (o.port<0)) || decide (o.age<0)) || decide (20≤o.age) || decide (id≤((o.vec.over o.cost).getD .zero).root))with
  | true=>rfl
  | false =>
    simp only[Bool.or_eq_false_iff,Bool.not_eq_false',decide_eq_false_iff_not]at hs
    exact absurd ⟨hs.1.1.1.1,by omega,by omega,by omega,by omega⟩ h
theorem Ch.step_bad {id:Int} {c:Ch} {o:Offer} (h:¬o.good id):c.step id o=c:=Ch.step_skip (fun h0 h1 h2 h3=>by
  by_cases h4:((o.vec.over o.cost).getD .zero).root<id
  · exact absurd ⟨h0,h1,h2,h3,h4⟩ h
  · omega)
attribute [local irreducible] SStep DW DWin DOps zaG zaE zaJ retQ zaN FnF FnG Wk IntKind.wrap IntKind.andI IntKind.orI IntKind.xorI IntKind.andNotI IntKind.shlI IntKind.shrI Vec.cmp Ch.step
set_option maxHeartbeats 2000000 in
theorem zne (id:Int) (l:List Offer):FnF Tryz.prog 136 [.int .u64 id,offers l] (.tuple [((zaK id l).says id).v,.int .i64 (zaK id l).age,.int .i64 (zaK id l).port]):=by
  refine zal Tryz.func136 rfl rfl rfl ?_
  simp only[zap,offers]
  refine zbY 1 rfl (fun hlen=>?_)
  have hml:(l.map Offer.cells).length=l.length:=by simp
  repeat' (first|refine qU ?_|((first|apply dX rfl|apply Da rfl rfl|apply Db rfl rfl qN);(focus ((try intro hg);first|exact qM));constructor)|refine qP ?_)
  refine zag (fun p:Nat×Ch=>⟨[(0,.dat false (.int .u64 id)),(4,.ptr 4 0),(7,.ptr 7 0),(8,.dat true (.int .i64 p.2.age)),(9,.dat true (.int .i64 p.2.port)),(17,.dat false (.slice (l.map Offer.cells))),
      (18,.dat true (.int .i64 (l.map Offer.cells).length)),(19,.dat true (.int .i64 p.1))],
      [(7,.cells false true [.dat true (.int .u64 p.2.best.root),.dat true (.int .i64 p.2.best.cost),.dat true (.int .u64 p.2.best.bridge),.dat true (.int .i64 p.2.best.port)]),
       (4,.cells false true [.dat true (.int .u64 0),.dat true (.int .i64 0),.dat true (.int .u64 0),.dat true (.int .i64 0)])],86⟩)
    (fun p=>p.1≤l.length∧zaK id l=(l.drop p.1).foldl (Ch.step id) p.2) (fun p=>l.length-p.1) (0,.start id) ⟨Nat.zero_le _,rfl⟩
    (Wk_g some rfl rfl kq) (fun p hR=>?_)
  obtain⟨k,c⟩:=p
  obtain⟨hk,hch⟩:=hR
  simp only at hk hch
  dsimp only
  by_cases hlt:k<l.length
  · have hx : (l.map Offer.cells)[(k:Int).toNat]? = some (l[k]).cells:=by simp[hlt]
    rw[List.drop_eq_getElem_cons hlt,List.foldl_cons]at hch
    generalize l[k]=o at hx hch
    by_cases hel:o.good id
    · have hE:=Offer.good_true hel
      obtain⟨i0,i1,i2,i3,i4⟩:=hel
      have hst:=Ch.step_in (c:=c) i0 i1 i2 i3 i4
      by_cases hp:c.port<0
      · rw[if_pos (.inl hp)]at hst
        repeat' (first|(apply zcs rfl;case hb=>exact hE)|refine qU ?_|((first|apply dX rfl|apply Da rfl rfl|apply Db rfl rfl qN);(focus ((try intro hg);first|exact zab (zam rfl rfl) (decide_eq_true (by omega:(k:Int)<((l.map Offer.cells).length:Int)))|exact zaT rfl rfl (by omega) hx rfl|exact zac (zgm o.vec o.cost) rfl|exact zac (zcT ((o.vec.over o.cost).getD .zero) c.best) rfl|exact zab (zam rfl rfl) (decide_eq_true hp)|exact zab (b:=true) (zam rfl rfl) rfl|exact qM));constructor)|refine qP ?_)
        exact zaa (k+1,⟨(o.vec.over o.cost).getD .zero,o.age+1,o.port⟩) ⟨hlt,by rw[hch,hst]⟩ (by simp only;omega) (Wk_g some rfl rfl kq)
      · by_cases ht:((o.vec.over o.cost).getD .zero).cmp c.best<0∨(((o.vec.over o.cost).getD .zero).cmp c.best=0∧o.port<c.port)
        · rw[if_pos (.inr ht)]at hst
          have hT:(decide (((o.vec.over o.cost).getD .zero).cmp c.best<0) || (decide (((o.vec.over o.cost).getD .zero).cmp c.best=0) && decide (o.port<c.port)))=true:=by simpa using ht
          repeat' (first|(apply zcs rfl;case hb=>exact hE)|(apply zfr rfl;case hb=>exact hT)|refine qU ?_|((first|apply dX rfl|apply Da rfl rfl|apply Db rfl rfl qN);(focus ((try intro hg);first|exact zab (zam rfl rfl) (decide_eq_true (by omega:(k:Int)<((l.map Offer.cells).length:Int)))|exact zaT rfl rfl (by omega) hx rfl|exact zac (zgm o.vec o.cost) rfl|exact zac (zcT ((o.vec.over o.cost).getD .zero) c.best) rfl|exact zab (zam rfl rfl) (decide_eq_false hp)|exact qM));constructor)|refine qP ?_)
          exact zaa (k+1,⟨(o.vec.over o.cost).getD .zero,o.age+1,o.port⟩) ⟨hlt,by rw[hch,hst]⟩ (by simp only;omega) (Wk_g some rfl rfl kq)
        · rw [if_neg (by omega)]at hst
          have hT:(decide (((o.vec.over o.cost).getD .zero).cmp c.best<0) || (decide (((o.vec.over o.cost).getD .zero).cmp c.best=0) && decide (o.port<c.port)))=false:=by
            rw[Bool.or_eq_false_iff,Bool.and_eq_false_iff,decide_eq_false_iff_not,decide_eq_false_iff_not,decide_eq_false_iff_not];omega
          repeat' (first|(apply zcs rfl;case hb=>exact hE)|(apply zcs rfl;case hb=>exact hT)|refine qU ?_|((first|apply dX rfl|apply Da rfl rfl|apply Db rfl rfl qN);(focus ((try intro hg);first|exact zab (zam rfl rfl) (decide_eq_true (by omega:(k:Int)<((l.map Offer.cells).length:Int)))|exact zaT rfl rfl (by omega) hx rfl|exact zac (zgm o.vec o.cost) rfl|exact zac (zcT ((o.vec.over o.cost).getD .zero) c.best) rfl|exact zab (zam rfl rfl) (decide_eq_false hp)|exact qM));constructor)|refine qP ?_)
          exact zaa (k+1,c) ⟨hlt,by rw[hch,hst]⟩ (by simp only;omega) (Wk_g some rfl rfl kq)
    · have hE:=Offer.good_false hel
      repeat' (first|(apply zfr rfl;case hb=>exact hE)|refine qU ?_|((first|apply dX rfl|apply Da rfl rfl|apply Db rfl rfl qN);(focus ((try intro hg);first|exact zab (zam rfl rfl) (decide_eq_true (by omega:(k:Int)<((l.map Offer.cells).length:Int)))|exact zaT rfl rfl (by omega) hx rfl|exact zac (zgm o.vec o.cost) rfl|exact zac (zcT ((o.vec.over o.cost).getD .zero) c.best) rfl|exact qM));constructor)|refine qP ?_)
      exact zaa (k+1,c) ⟨hlt,by rw[hch,Ch.step_bad hel]⟩ (by simp only;omega) (Wk_g some rfl rfl kq)
  · repeat' (first|refine qU ?_|((first|apply dX rfl|apply Da rfl rfl|apply Db rfl rfl qN);(focus ((try intro hg);first|exact zab (zam rfl rfl) (decide_eq_false (by omega:¬(k:Int)<((l.map Offer.cells).length:Int)))|exact qM));constructor)|refine qP ?_)
    refine retN (.cellA inferInstance rfl rfl rfl rfl qF (.tmp rfl qF (.tmp rfl qF .nil))) ?_
    rw[List.drop_eq_nil_of_le (by omega)]at hch
    rw[hch];rfl
end Go.Proofs.YtcdhlofhhcgohaaGreat
namespace Go.Proofs.YtcdhlofhhcgohaaGreat
open Go.RowKit
attribute [local irreducible] SStep DW DOps zaG zaE zaJ retQ FnF Wk
def Offer.blocks (says:Vec) (port:Int) (o:Offer):Bool:=(decide (o.port=port) && decide (0≤o.age) && decide (o.age≤20) && decide (o.vec.cmp says<0))
def zb9 (says:Vec) (root port:Int) (l:List Offer):Int:=if port=root then 1 else if l.any (Offer.blocks { says with port:=port } port)then 3 else 2
theorem zqQ (says:Vec) (root port:Int) (l:List Offer):FnF Tryz.prog 174 [says.v,.int .i64 root,.int .i64 port,offers l] (.int .i64 (zb9 says root port l)):=by
 refine zal Tryz.func174 rfl rfl rfl ?_
 simp only[zap,offers]
 refine zbY 3 rfl (fun hlen=>?_)
 have hml:(l.map Offer.cells).length=l.length:=by simp
 repeat' (first|refine qU ?_|refine zat rfl (fun hb=>?_) (fun hb=>?_)|((first|apply dX rfl|apply Da rfl rfl|apply Db rfl rfl qN);(focus ((try intro hg);first|exact qM));constructor)|refine qP ?_)
 ·simp at hb
  refine ret1 rfl (.inl rfl) ?_
  rw[zb9,if_pos hb]
 simp at hb
 refine zag (fun k:Nat=>⟨[(2,.dat false (.int .i64 port)),(4,.ptr 4 0),(16,.dat false (.slice (l.map Offer.cells))),(17,.dat true (.int .i64 (l.map Offer.cells).length)),(18,.dat true (.int .i64 k))],
   [(4,.cells false true [.dat false (.int .u64 says.root),.dat false (.int .i64 says.cost),.dat false (.int .u64 says.bridge),.dat false (.int .i64 port)])],44⟩)
  (fun k=>k≤l.length∧l.any (Offer.blocks { says with port:=port } port)=(l.drop k).any (Offer.blocks { says with port:=port } port)) (fun k=>l.length-k) 0 ⟨Nat.zero_le _,rfl⟩
  (Wk_g some rfl rfl kq) (fun k hR=>?_)
 obtain⟨hk,hany⟩:=hR
 by_cases hlt:k<l.length
 ·have hx:(l.map Offer.cells)[k]? = some (l[k]).cells:=by simp[hlt]
  rw[List.drop_eq_getElem_cons hlt,List.any_cons]at hany
  generalize l[k]=o at hx hany
  repeat' (first|refine qU ?_|refine zat rfl (fun hc=>?_) (fun hc=>?_)|((first|apply dX rfl|apply Da rfl rfl|apply Db rfl rfl qN);(focus ((try intro hg);first|exact zaT rfl rfl (by omega) hx rfl|exact zac (zcT o.vec ⟨says.root,says.cost,says.bridge,port⟩) rfl|exact qM));constructor)|refine qP ?_)
  ·refine ret1 rfl (.inl rfl) ?_
   have e:Offer.blocks { says with port:=port } port o=true:=hc
   rw[zb9,if_neg hb,hany,e];rfl
  ·have e:Offer.blocks { says with port:=port } port o=false:=hc
   refine zaa (k+1) ⟨hlt,by rw[hany,e];rfl⟩ (by omega) (Wk_g some rfl rfl kq)
  ·simp at hc;omega
 ·repeat' (first|refine qU ?_|refine zat rfl (fun hc=>?_) (fun hc=>?_)|((first|apply dX rfl|apply Da rfl rfl|apply Db rfl rfl qN);(focus ((try intro hg);first|exact qM));constructor)|refine qP ?_)
  ·simp at hc;omega
  ·refine ret1 rfl (.inl rfl) ?_
   rw[zb9,if_neg hb,hany,List.drop_eq_nil_of_le (by omega)];rfl
end Go.Proofs.YtcdhlofhhcgohaaGreat
namespace Go.Proofs.YtcdhlofhhcgohaaGreat
open Go.RowKit
def mapE (k k':IntKind) (es:List (Int×Int)):List (V×V):=es.map fun p=>(.int k p.1,.int k' p.2)
section
variable {P : Program} {e : Operand → D} {m : Mem} {dst : Option Tmp} {ty : TypeId} {pos : String} {af : Array Edge} {gd : Option (Nat × Bool)} {x y z : Operand} {t kt et : TypeId}
theorem zsJ {k k':IntKind} (g:Nat) (hg:m.at g = .gone):SStep P ⟨dst,.makeMap t none,ty,pos,af,gd⟩ e m [] (.mp g) [(g,.mapb kt et (mapE k k' []))]:=by
 intro C m' a next Q hag hm hx hn
 have hg':m'.at g = .gone:=(hag g (by simp)).trans hg
 have hblk:(C.w.alloc (.map #[] 0)).heap[C.w.heap.size]? = some (.map #[] 0):=heap_alloc_new C.w _
 have hst:Step C m' (C.set g (some C.w.heap.size) (C.w.alloc (.map #[] 0))) ((g,.mapb kt et (mapE k k' []))::m'):=by
  refine Step.fresh hm hg' (Grew.alloc C.w _) (fun b' hb'=>by injection hb' with hb';omega) (fun hd _=>?_)
  exact⟨_,rfl, #[],0,hblk,rfl,rfl,by simp[mapE]⟩
 refine zaC (v := .map (some C.w.heap.size)) (w':=C.w.alloc (.map #[] 0)) (by simp[execOp,run_makeMap_plain]) (hn _ _ hst ?_)
 exact⟨kt,et,mapE k k' [],C.w.heap.size,Mem.at_cons_same _ _ _,by rw[Cf.set_same],rfl⟩
end
end Go.Proofs.YtcdhlofhhcgohaaGreat
