/- The library's layings of slices.SortFunc (ends) and slices.Sort (numbers) over this program, in plain words (by program: wip/dm/lay.py). -/
import Derived.Test.YtcdhlofhhcgohaaGreatwbMake
import Derived.Test.YtcdhlofhhcgohaaGreatwdBkr
import Derived.Test.YtcdhlofhhcgohaaGreatwcMd5
import Derived.Test.YtcdhlofhhcgohaaGreatwdBkw
import Derived.Shelf.SlLaysF0
import Derived.Shelf.SlLaysNS
import Derived.Test.YtcdhlofhhcgohaaGreatProg
namespace Go.Proofs.YtcdhlofhhcgohaaGreat
open Go.RowKit
def idxP {α:Type} (p:α→Bool):List α→Nat→Int
 | [],_ => -1
 | x::r,k=>if p x then k else idxP p r (k+1)
attribute [local irreducible] SStep DW DWin DOps zaG zaE zaJ retQ zaN FnF FnG Wk IntKind.wrap IntKind.andI IntKind.orI IntKind.xorI IntKind.andNotI IntKind.shlI IntKind.shrI
set_option maxHeartbeats 1000000 in
theorem zsZ (ws:List Int) (v:Int):FnF Tryz.prog 148 [.slice (ws.map zad),.int .i64 v] (.bool (decide (v∈ws))):=by
 refine zal Tryz.func148 rfl rfl rfl ?_
 simp only[zap]
 refine zbY 0 rfl (fun hlen=>?_)
 have hml:(ws.map zad).length=ws.length:=by simp
 repeat' (first|refine qU ?_|((first|apply dX rfl|apply Da rfl rfl|apply Db rfl rfl qN);(focus ((try intro hg);first|exact qM));constructor)|refine qP ?_)
 refine zag (fun k:Nat=>⟨[(1,.dat false (.int .i64 v)),(7,.dat false (.slice (ws.map zad))),(8,.dat true (.int .i64 (ws.map zad).length)),(9,.dat true (.int .i64 k))],[],17⟩)
  (fun k=>k≤ws.length∧decide (v∈ws)=decide (v∈ws.drop k)) (fun k=>ws.length-k) 0 ⟨Nat.zero_le _,rfl⟩
  (Wk_g some rfl rfl kq) (fun k hR=>?_)
 obtain⟨hk,hw⟩:=hR
 by_cases hlt:k<ws.length
 ·have hx:ws[(k:Int).toNat]? = some ws[k]:=by simp[hlt]
  have hn:ws.drop k=ws[k]::ws.drop (k+1):=List.drop_eq_getElem_cons hlt
  generalize ws[k]=x at hx hn
  rw[hn]at hw
  repeat' (first|refine qU ?_|refine zat rfl (fun hb=>?_) (fun hb=>?_)|((first|apply dX rfl|apply Da rfl rfl|apply Db rfl rfl qN);(focus ((try intro hg);first|exact zab (zam rfl rfl) (decide_eq_true (by omega:(k:Int)<((ws.map zad).length:Int)))|exact zaf rfl rfl (by omega) hx|exact qM));constructor)|refine qP ?_)
  ·have:=of_decide_eq_true hb
   rw[hw,this]
   simp only[List.mem_cons,true_or,decide_true]
   exact ret1 rfl (.inl rfl) rfl
  ·have hne:¬v=x:=fun h=>of_decide_eq_false hb h.symm
   exact zaa (k+1) ⟨hlt,by rw[hw];simp[hne]⟩ (by omega) (Wk_g some rfl rfl kq)
 ·repeat' (first|refine qU ?_|((first|apply dX rfl|apply Da rfl rfl|apply Db rfl rfl qN);(focus ((try intro hg);first|exact zab (zam rfl rfl) (decide_eq_false (by omega:¬(k:Int)<((ws.map zad).length:Int)))|exact qM));constructor)|refine qP ?_)
  rw[hw,List.drop_eq_nil_of_le (by omega)]
  exact ret1 rfl (.inl rfl) rfl
end Go.Proofs.YtcdhlofhhcgohaaGreat
namespace Go.Proofs.YtcdhlofhhcgohaaGreat
open Go.RowKit
attribute [local irreducible] SStep DW DOps zaG zaE zaJ retQ zaN FnF FnG Wk IntKind.wrap IntKind.andI IntKind.orI IntKind.xorI IntKind.andNotI IntKind.shlI IntKind.shrI zay
structure Frame where
 dst:Int
 src:Int
 tagged:Bool
 prio:Int
 drop:Bool
 vid:Int
 typ:Int
 data:List UInt8
def Frame.cells (f:Frame):List V := [.int .u64 f.dst,.int .u64 f.src,.bool f.tagged,.int .i64 f.prio,.bool f.drop,.int .i64 f.vid,.int .i64 f.typ,.slice (f.data.map zak)]
def Frame.v (f:Frame):V := .agg f.cells
def Frame.zero : Frame:=⟨0,0,false,0,false,0,0,[]⟩
structure Frame.ok (f:Frame):Prop where
 d0:0≤f.dst
 d1:f.dst≤18446744073709551615
 s0:0≤f.src
 s1:f.src≤18446744073709551615
 p0 : -9223372036854775808≤f.prio
 p1:f.prio≤9223372036854775807
 v0 : -9223372036854775808≤f.vid
 v1:f.vid≤9223372036854775807
 t0 : -9223372036854775808≤f.typ
 t1:f.typ≤9223372036854775807
 l:f.data.length≤9223372036854775807
def Frame.wrong (f:Frame):Int :=
 if 281474976710655<f.dst∨281474976710655<f.src then 3 else
 if f.src / 1099511627776 % 2=1 then 8 else
 if f.tagged=true∧(f.vid<0∨4094<f.vid∨f.prio<0∨7<f.prio)then 3 else
 if f.typ<1536∨65535<f.typ∨f.typ=33024 then 1 else
 if 1500<f.data.length then 4 else 0
theorem and_one {a:Int} (h:0≤a) (h2:a≤18446744073709551615):IntKind.u64.andI a 1=a % 2:=by
 unfold IntKind.andI
 have hb:IntKind.u64.bits=64:=rfl
 have e1:(BitVec.ofInt 64 a &&& BitVec.ofInt 64 1).toNat=a.toNat % 2:=by
  rw[BitVec.toNat_and,ze9 h (by omega),ze9 (by omega) (by omega)]
  exact Nat.and_one_is_mod _
 rw[hb,e1,wrap_u64]
 omega
theorem ztL {a:Int}:IntKind.u64.shrI a 40=a / 1099511627776:=by
 unfold IntKind.shrI
 have e:(2:Int) ^ (min (40:Int).toNat IntKind.u64.bits)=1099511627776:=by decide
 rw[e,Int.fdiv_eq_ediv_of_nonneg _ (by decide)]
theorem zg7 (f:Frame) (hf:f.ok):FnF Tryz.prog 62 [f.v] (.int .i64 f.wrong):=by
 refine zal Tryz.func62 rfl rfl rfl ?_
 simp only[zap]
 have hs:=hf.s0
 have hs1:=hf.s1
 have ha:IntKind.u64.andI (f.src / 1099511627776) 1=f.src / 1099511627776 % 2:=and_one (by omega) (by omega)
 repeat' (first|refine qU ?_|refine zat rfl (fun hb=>?_) (fun hb=>?_)|((first|apply dX rfl|apply Da rfl rfl|apply Db rfl rfl qN);(focus ((try intro hg);first|exact zaw (zeD rfl rfl (by decide)) ztL|exact zaw (zsl rfl rfl) ha|exact qM));constructor)|refine qP ?_)
 all_goals refine ret1 rfl (.inl rfl) ?_
 all_goals (unfold Frame.wrong;cases ht:f.tagged<;>simp_all<;>(try intros;(repeat' split)<;>first|rfl|omega))
theorem zio (f:Frame) (hf:f.ok):FnF Tryz.prog 41 [f.v] (.int .i64 f.wrong):=by
 refine zal Tryz.func41 rfl rfl rfl ?_
 simp only[zap]
 have hs:=hf.s0
 have hs1:=hf.s1
 have hq:IntKind.u64.wrap (f.src.tdiv 1099511627776)=f.src / 1099511627776:=by
  rw[Int.tdiv_eq_ediv_of_nonneg hs,wrap_in];simp only[InK];omega
 have hr:(f.src / 1099511627776).tmod 2=f.src / 1099511627776 % 2:=Int.tmod_eq_emod_of_nonneg (by omega)
 repeat' (first|refine qU ?_|refine zat rfl (fun hb=>?_) (fun hb=>?_)|((first|apply dX rfl|apply Da rfl rfl|apply Db rfl rfl qN);(focus ((try intro hg);first|exact zaw (ziG rfl rfl (by decide)) hq|exact zaw (zcw rfl rfl (by decide)) hr|exact qM));constructor)|refine qP ?_)
 all_goals refine ret1 rfl (.inl rfl) ?_
 all_goals (unfold Frame.wrong;cases ht:f.tagged<;>simp_all<;>(try intros;(repeat' split)<;>first|rfl|omega))
def Frame.same (a b:Frame):Bool :=
 decide (a.dst=b.dst) && decide (a.src=b.src) && (a.tagged == b.tagged) && (!a.tagged || (decide (a.prio=b.prio) && (a.drop == b.drop) && decide (a.vid=b.vid))) && decide (a.typ=b.typ) && decide (a.data=b.data)
theorem zpt (a b:Frame) (_ha:a.ok) (_hb:b.ok):FnF Tryz.prog 28 [a.v,b.v] (.bool (a.same b)):=by
 refine zal Tryz.func28 rfl rfl rfl ?_
 simp only[zap]
 repeat' (first|refine qU ?_|((first|apply dX rfl|apply Da rfl rfl|apply Db rfl rfl qN);(focus ((try intro hg);first|exact zeK (l:=a.data) Tryz.underlying5 Tryz.underlying9 rfl|exact zeK (l:=b.data) Tryz.underlying5 Tryz.underlying9 rfl|exact qM));constructor)|refine qP ?_)
 exact ret1 rfl (.inl rfl) rfl
end Go.Proofs.YtcdhlofhhcgohaaGreat
namespace Go.Proofs.YtcdhlofhhcgohaaGreat
open Go.RowKit
structure Gate where
 port:Int
 ways:List Int
 plain:Int
 opens:List Bool
def zaM (g:Gate):List V := [.int .i64 g.port,.slice (g.ways.map zad),.int .i64 g.plain,.slice (g.opens.map zbA)]
instance : CellsI zaM 4:=⟨fun _=>rfl,fun t d h=>by
 simp only[zaM,List.mem_cons,List.mem_nil_iff,or_false]at h
 rcases h with rfl|rfl|rfl|rfl<;>rfl⟩
def zfF (last:Int):List Int→Int
 | []=>0
 | v::r=>if v<1∨4094<v then 3 else if v≤last then 2 else zfF v r
def Gate.bad (g:Gate):Prop:=g.port<0∨30<g.port∨g.plain<0∨4094<g.plain
instance gateBadDec (g:Gate):Decidable g.bad:=by unfold Gate.bad;infer_instance
def Gate.wrong1 (g:Gate):Int:=if g.bad then 3 else if 16<g.opens.length then 5 else zfF 0 g.ways
def zey (last:Option Int) (i:Nat):List Gate→Int×Nat
 | []=>(0,0)
 | g::r=>if g.wrong1≠0 then(g.wrong1,i)else if last.any (fun p=>decide (g.port≤p))then(2,i)else zey (some g.port) (i+1) r
def zcz (l:List Gate):Int×Nat:=zey none 0 l
def zga (l:List Gate):Nat→Option Int
 | 0=>none
 | k+1=>(l[k]?).map (·.port)
def zg8 (ws:List Int):Nat→Int
 | 0=>0
 | k+1=>(ws[k]?).getD 0
structure Gate.right (g:Gate):Prop where
 b:¬g.bad
 o:g.opens.length≤16
 w:∀ v∈g.ways,1≤v∧v≤4094
 s:g.ways.Pairwise (· < ·)
 n:g.ways.length≤4094
structure rightG (l:List Gate):Prop where
 g:∀ g∈l,g.right
 s:l.Pairwise (fun a b=>a.port<b.port)
 n:l.length≤31
theorem zip : ∀ (ws:List Int) (last:Int),0≤last→last≤4094→zfF last ws=0→(∀ v∈ws,1≤v∧v≤4094∧last<v)∧ws.Pairwise (· < ·)∧(ws.length:Int)≤4094-last
 | [],last,_,_,_=>by simp;omega
 | w::r,last,h1,h2,h=>by
  rw[zfF]at h
  split at h
  ·cases h
  ·rename_i hb
   split at h
   ·cases h
   ·rename_i hl
    obtain⟨k1,k2,k3⟩:=zip r w (by omega) (by omega) h
    refine⟨fun u hu=>?_,List.pairwise_cons.2 ⟨fun u hu=>(k1 u hu).2.2,k2⟩,by simp;omega⟩
    rcases List.mem_cons.1 hu with rfl|hu
    ·omega
    ·have:=k1 u hu;omega
theorem zlP {g:Gate} (h:g.wrong1=0):g.right:=by
 unfold Gate.wrong1 at h
 split at h
 ·cases h
 ·rename_i hb
  split at h
  ·cases h
  ·rename_i ho
   obtain⟨k1,k2,k3⟩:=zip g.ways 0 (by omega) (by omega) h
   exact⟨hb,by omega,fun v hv=>⟨(k1 v hv).1,(k1 v hv).2.1⟩,k2,by omega⟩
theorem zg9 : ∀ (l:List Gate) (last:Option Int) (i:Nat) (m:Int), -1≤m→m≤30→(∀ p,last=some p→p=m)→(zey last i l).1=0→(∀ g∈l,g.right∧∀ p,last=some p→p<g.port)∧l.Pairwise (fun a b=>a.port<b.port)∧((last=none→m = -1)→(l.length:Int)≤30-m)
 | [],_,_,m,h1,h2,h3,_=>by simp;omega
 | g :: r,last,i,m,h1,h2,h3,h=>by
  rw[zey]at h
  split at h
  ·rename_i hn;exact absurd h hn
  ·rename_i hz
   split at h
   ·cases h
   ·rename_i hl
    have hr:=zlP (Decidable.not_not.1 hz)
    have hb:=hr.b
    unfold Gate.bad at hb
    obtain⟨k1,k2,k3⟩:=zg9 r (some g.port) (i+1) g.port (by omega) (by omega) (fun p hp=>by injection hp with hp;exact hp.symm) h
    have hp:∀ p,last=some p→p<g.port:=fun p hp=>by subst hp;simpa using hl
    refine⟨fun u hu=>?_,List.pairwise_cons.2 ⟨fun u hu=>(k1 u hu).2 _ rfl,k2⟩,fun hm=>?_⟩
    ·rcases List.mem_cons.1 hu with rfl|hu
     ·exact⟨hr,hp⟩
     ·exact⟨(k1 u hu).1,fun p h=>Int.lt_trans (hp p h) ((k1 u hu).2 _ rfl)⟩
    ·have h4:=k3 (fun h=>by cases h)
     have:m<g.port:=by
      cases last with
      | none=>rw[hm rfl];omega
      | some p=>rw[←h3 p rfl];exact hp p rfl
     simp only[List.length_cons];omega
theorem zha {l:List Gate} (h:(zcz l).1=0):rightG l:=by
 obtain⟨k1,k2,k3⟩:=zg9 l none 0 (-1) (by omega) (by omega) (fun p hp=>by cases hp) h
 exact⟨fun g hg=>(k1 g hg).1,k2,by have:=k3 (fun _=>rfl);omega⟩
theorem zkG {ws:List Way} (h:∀ w∈ws,¬w.bad) (v:Int):0≤za2 ws v∧za2 ws v≤15:=by
 induction ws with
 | nil=>simp[za2]
 | cons w r ih =>
  rw[za2]
  split
  ·have:=h w (List.mem_cons.2 (.inl rfl));unfold Way.bad at this;omega
  ·exact ih (fun u hu=>h u (List.mem_cons.2 (.inr hu)))
def Gate.passes (g:Gate) (r:Region) (v:Int):Bool:=decide (v∈g.ways) && (g.opens[(za2 r.ways v).toNat]?).getD false
def zcp (g:Gate) (f:Frame):Int:=if f.tagged=true∧f.vid≠0 then f.vid else g.plain
def zcA (g:Gate) (f:Frame) (v:Int):Frame :=
 if g.plain=v then { f with tagged:=false,prio:=0,drop:=false,vid:=0 }
 else { f with tagged:=true,prio:=if f.tagged then f.prio else 0,drop:=f.tagged && f.drop,vid:=v }
def zdx (a:Int):Bool:=decide (IntKind.u64.shrI a 4=103282638848)
abbrev OutF := Int×Frame
def outV (p:OutF):List V := .int .i64 p.1::p.2.cells
instance : CellsI outV 9:=⟨fun _=>rfl,fun t d h=>by
 simp only[outV,Frame.cells,List.mem_cons,List.mem_nil_iff,or_false]at h
 rcases h with rfl|rfl|rfl|rfl|rfl|rfl|rfl|rfl|rfl<;>rfl⟩
def znF (r:Region) (v port at':Int) (known:Bool) (g:Gate):Bool:=decide (g.port=port) || (known && decide (g.port≠at')) || !g.passes r v
def zgb (r:Region) (gs:List Gate) (v port at':Int) (known:Bool) (f:Frame):List OutF:=(gs.filter (fun g => !znF r v port at' known g)).map (fun g=>(g.port,zcA g f v))
def zpu (g:Gate) (r:Region) (f:Frame):Bool:=decide (zcp g f=0) || !g.passes r (zcp g f) || zdx f.dst
def zhb (r:Region) (gs:List Gate) (l:List Ent) (port:Int) (f:Frame) (g:Gate):List OutF×List Ent×Int :=
 if zpu g r f then([],l,0)else
  (zgb r gs (zcp g f) port (zck (zaU l (zcp g f) f.src port) (zcp g f) f.dst).1 (zck (zaU l (zcp g f) f.src port) (zcp g f) f.dst).2 f,zaU l (zcp g f) f.src port,0)
def zdi (gs:List Gate) (port:Int):Option Gate:=gs.find? (fun g=>decide (g.port=port))
def zhc (r:Region) (gs:List Gate) (l:List Ent) (port:Int) (f:Frame):List OutF×List Ent×Int :=
 match zdi gs port with
 | none=>([],[],6)
 | some g=>zhb r gs l port f g
theorem zeT {r:Region} {gs:List Gate} {l:List Ent} {port:Int} {f:Frame} (h:zdi gs port=none):zhc r gs l port f=([],[],6):=by unfold zhc;rw[h]
theorem zeU {r:Region} {gs:List Gate} {l:List Ent} {port:Int} {f:Frame} {g:Gate} (h:zdi gs port=some g):zhc r gs l port f=zhb r gs l port f g:=by unfold zhc;rw[h]
def zaQ (r:Region) (gs:List Gate) (l:List Ent) (port:Int) (f:Frame):List OutF×List Ent×Int :=
 if r.wrong≠0 then([],[],r.wrong)else if(zcz gs).1≠0 then([],[],(zcz gs).1)else if(zcc l).1≠0 then([],[],(zcc l).1)else if f.wrong≠0 then([],[],f.wrong)
 else zhc r gs l port f
structure AllRight (r:Region) (gs:List Gate) (l:List Ent) (f:Frame):Prop where
 r:r.wrong=0
 g:(zcz gs).1=0
 b:(zcc l).1=0
 f:f.wrong=0
theorem zea {r:Region} {gs:List Gate} {l:List Ent} {port:Int} {f:Frame} (h:AllRight r gs l f):zaQ r gs l port f=zhc r gs l port f:=by
 unfold zaQ;rw[if_neg (fun k=>k h.r),if_neg (fun k=>k h.g),if_neg (fun k=>k h.b),if_neg (fun k=>k h.f)]
theorem zkH {α:Type} {p:α→Bool}:∀ {l:List α} {k:Nat},(idxP p l k = -1∧l.find? p=none)∨∃ n x,idxP p l k=((k+n:Nat):Int)∧l[n]? = some x∧l.find? p=some x
 | [],_=>.inl ⟨rfl,rfl⟩
 | x::r,k=>by
  rw[idxP]
  by_cases hx:p x=true
  ·rw[if_pos hx]
   exact .inr ⟨0,x,by rfl,rfl,by rw[List.find?_cons_of_pos hx]⟩
  ·rw[if_neg hx]
   rcases zkH (p:=p) (l:=r) (k:=k+1)with⟨h1,h2⟩|⟨n,y,h1,h2,h3⟩
   ·exact .inl ⟨h1,by rw[List.find?_cons_of_neg hx,h2]⟩
   ·exact .inr ⟨n+1,y,by rw[h1];congr 1;omega,h2,by rw[List.find?_cons_of_neg hx,h3]⟩
def bsW (ws:List Int) (v:Int):Nat:=bsG (fun x=>x-v) 0 ws ws.length 0 ws.length
theorem zrj {ws:List Int} (hs:ws.Pairwise (· < ·)) (v:Int):(decide (bsW ws v<ws.length) && decide (ws.getD (bsW ws v) 0=v))=decide (v∈ws):=by
 have hsplit:∃ l1 l2,ws=l1++l2∧(∀ x∈l1,x<v)∧∀ x∈l2,¬x<v:=by
  induction ws with
  | nil=>exact⟨[],[],rfl,by simp,by simp⟩
  | cons x r ih =>
   obtain⟨h1,h2⟩:=List.pairwise_cons.1 hs
   by_cases hx:x<v
   ·obtain⟨l1,l2,e,k1,k2⟩:=ih h2
    exact⟨x::l1,l2,by rw[e];rfl,fun y hy=>(List.mem_cons.1 hy).elim (fun h=>h▸hx) (k1 y),k2⟩
   ·refine⟨[],x::r,rfl,by simp,fun y hy=>?_⟩
    rcases List.mem_cons.1 hy with rfl|hy
    ·exact hx
    ·have:=h1 y hy;omega
 obtain⟨l1,l2,rfl,k1,k2⟩:=hsplit
 have hb:bsW (l1++l2) v=l1.length:=by
  refine zgp (fun k hk=>?_) (fun k hk hk2=>?_) (by simp) _ _ _ (by omega) (by omega) (by simp) (by omega)
  ·have:(l1++l2).getD k 0∈l1:=by
    rw[List.getD_eq_getElem?_getD,List.getElem?_append_left hk,List.getElem?_eq_getElem hk];exact List.getElem_mem hk
   have:=k1 _ this;show(l1++l2).getD k 0-v<0;omega
  ·have:(l1++l2).getD k 0∈l2:=by
    rw[List.length_append]at hk2
    rw[List.getD_eq_getElem?_getD,List.getElem?_append_right hk,List.getElem?_eq_getElem (by omega)];exact List.getElem_mem _
   have:=k2 _ this;show ¬(l1++l2).getD k 0-v<0;omega
 rw[hb]
 rw[Bool.eq_iff_iff]
 simp only[Bool.and_eq_true,decide_eq_true_eq,List.length_append]
 constructor
 ·rintro⟨h1,h2⟩
  rw[List.getD_eq_getElem?_getD,List.getElem?_append_right (Nat.le_refl _),Nat.sub_self,List.getElem?_eq_getElem (by omega)]at h2
  rw[←h2]
  exact List.mem_append.2 (.inr (List.getElem_mem _))
 ·intro hm
  rcases List.mem_append.1 hm with h|h
  ·have:=k1 v h;omega
  ·obtain⟨a,r,rfl⟩:∃ a r,l2=a::r:=by cases l2 with|nil=>cases h|cons a r=>exact⟨a,r,rfl⟩
   refine⟨by simp,?_⟩
   rw[List.getD_eq_getElem?_getD,List.getElem?_append_right (Nat.le_refl _),Nat.sub_self]
   simp only[List.getElem?_cons_zero,Option.getD_some]
   rcases List.mem_cons.1 h with rfl|h
   ·rfl
   ·have h1:¬a<v:=k2 a (List.mem_cons.2 (.inl rfl))
    have h2:=(List.pairwise_cons.1 (List.pairwise_append.1 hs).2.1).1 v h
    omega
end Go.Proofs.YtcdhlofhhcgohaaGreat
namespace Go.Proofs.YtcdhlofhhcgohaaGreat
open Go.RowKit
structure Come where
 br:Int
 port:Int
 f:Frame
def zbO (c:Come):List V := .int .i64 c.br :: .int .i64 c.port::c.f.cells
instance : CellsI zbO 10:=⟨fun _=>rfl,fun t d h=>by
 simp only[zbO,Frame.cells,List.mem_cons,List.mem_nil_iff,or_false]at h
 rcases h with rfl|rfl|rfl|rfl|rfl|rfl|rfl|rfl|rfl|rfl<;>rfl⟩
def Come.zero : Come:=⟨0,0,.zero⟩
def za8 (l:List Ent):List V := [.slice (l.map entV)]
instance : CellsI za8 1:=⟨fun _=>rfl,fun t d h=>by
 simp only[za8,List.mem_cons,List.mem_nil_iff,or_false]at h
 subst h;rfl⟩
def zaV (t:List (List Mind)) (b port:Int):List Bool:=(List.range t.length).map fun k:Nat=>decide (port=0) || zdh t k b port
def zbm (t:List (List Mind)) (b vid p:Int):Gate:=⟨p,[vid],if p=0 then vid else 0,zaV t b p⟩
def zbc (n:Net) (t:List (List Mind)) (b vid:Int):List Gate:=zbm t b vid 0::(zah n.links b).map (zbm t b vid)
def zbT : List Link→Int→Int→Option (Int×Int)
 | [],_,_=>none
 | l::r,b,p=>if l.up=true∧l.a=b∧l.pa=p then some (l.b,l.pb)else if l.up=true∧l.b=b∧l.pb=p then some (l.a,l.pa)else zbT r b p
def zbw (n:Net) (b:Int) (outs:List OutF):List Come:=outs.filterMap fun o=>if o.1=0 then none else(zbT n.links b o.1).map fun q=>⟨q.1,q.2,o.2⟩
def zcG (b:Int) (outs:List OutF):List OutF:=outs.filterMap fun o=>if o.1=0 then some (b,o.2)else none
def zfg (n:Net) (b:Int):Region:=((n.bridges[b.toNat]?).map (·.region)).getD ⟨[],0,[]⟩
def zdj (bs:List (List Ent)) (b:Int):List Ent:=(bs[b.toNat]?).getD []
def zbP (n:Net) (t:List (List Mind)) (vid:Int) (bs:List (List Ent)) (c:Come):List OutF×List Ent×Int:=zaQ (zfg n c.br) (zbc n t c.br vid) (zdj bs c.br) c.port c.f
structure Sent where
 seen:List OutF
 books:List (List Ent)
 ok:Bool
 flt:Int×Nat
def Sent.v (s:Sent):V := .tuple [.slice (s.seen.map outV),.slice (s.books.map za8),.bool s.ok,zb1 s.flt]
def zbU (e:Int):Sent:=⟨[],[],false,(e,0)⟩
def goS (n:Net) (t:List (List Mind)) (vid:Int):Nat→List Come→List OutF→List (List Ent)→Sent
 | _,[],seen,bs=>⟨seen,bs,true,(0,0)⟩
 | 0,_::_,_,_=>zbU 0
 | k+1,c::r,seen,bs=>if(zbP n t vid bs c).2.2≠0 then zbU (zbP n t vid bs c).2.2 else
  goS n t vid k (r++zbw n c.br (zbP n t vid bs c).1) (seen++zcG c.br (zbP n t vid bs c).1) (bs.set c.br.toNat (zbP n t vid bs c).2.1)
def zjl (n:Net) (t:List (List Mind)) (bs:List (List Ent)) (frm vid:Int) (f:Frame):Sent :=
 if bs.length≠n.bridges.length then zbU 8 else
 if frm<0∨(n.bridges.length:Int)≤frm then zbU 6 else
 if vid<1∨4094<vid then zbU 3 else
 if f.tagged=true then zbU 1 else
 if f.wrong≠0 then zbU f.wrong else
 if n.bridges.any (fun b=>decide ((t.length:Int)≤za2 b.region.ways vid))then zbU 5 else
 goS n t vid 41 [⟨frm,0,f⟩] [] bs
structure Come.ok (n:Net) (c:Come):Prop where
 b0:0≤c.br
 b1:c.br<n.bridges.length
 f:c.f.ok
theorem zkI {nb:Nat}:∀ {ls:List Link} {b p:Int} {q:Int×Int},(∀ l∈ls,l.ok nb)→zbT ls b p=some q→0≤q.1∧q.1<nb
 | [],_,_,_,_,h=>by cases h
 | l::r,b,p,q,hl,h=>by
  rw[zbT]at h
  have hk:=hl l (by simp)
  split at h
  ·injection h with h
   subst h;exact⟨hk.b0,hk.b1⟩
  ·split at h
   ·injection h with h
    subst h;exact⟨hk.a0,hk.a1⟩
   ·exact zkI (fun x hx=>hl x (by simp[hx])) h
theorem zfG {n:Net} (h:n.good) {b:Int} {outs:List OutF} (ho:∀ o∈outs,o.2.ok):∀ c∈zbw n b outs,c.ok n:=fun c hc=>by
 unfold zbw at hc
 obtain⟨o,ho',hc⟩:=List.mem_filterMap.1 hc
 split at hc
 ·cases hc
 ·obtain⟨q,hq,rfl⟩:=Option.map_eq_some_iff.1 hc
  obtain⟨h1,h2⟩:=zkI h.lk hq
  exact⟨h1,h2,ho o ho'⟩
theorem zfZ {n:Net} {b:Int} {outs:List OutF} {j:Nat} {o:OutF} (h:outs[j]? = some o):zbw n b (outs.take (j+1))=zbw n b (outs.take j)++if o.1=0 then []else match zbT n.links b o.1 with|none=>[]|some q=>[⟨q.1,q.2,o.2⟩]:=by
 unfold zbw
 rw[List.take_add_one,h,List.filterMap_append]
 congr 1
 by_cases h0:o.1=0
 ·simp[h0]
 ·cases hq:zbT n.links b o.1<;>simp[h0,hq]
theorem zhd {b:Int} {outs:List OutF} {j:Nat} {o:OutF} (h:outs[j]? = some o):zcG b (outs.take (j+1))=zcG b (outs.take j)++if o.1=0 then [(b,o.2)]else []:=by
 unfold zcG
 rw[List.take_add_one,h,List.filterMap_append]
 congr 1
 by_cases h0:o.1=0<;>simp[h0]
theorem zhe (n:Net) (b:Int) (outs:List OutF):(zbw n b outs).length≤outs.length:=by unfold zbw;exact List.length_filterMap_le ..
theorem ziq (b:Int) (outs:List OutF):(zcG b outs).length≤outs.length:=by unfold zcG;exact List.length_filterMap_le ..
theorem zgr {n:Net} {b:Int} {x:Bridge} (h:n.bridges[b.toNat]? = some x):zfg n b=x.region:=by unfold zfg;rw[h];rfl
theorem zkJ {bs:List (List Ent)} {b:Int} {l:List Ent} (h:bs[b.toNat]? = some l):zdj bs b=l:=by unfold zdj;rw[h];rfl
end Go.Proofs.YtcdhlofhhcgohaaGreat
namespace Go.Proofs.YtcdhlofhhcgohaaGreat
open Go.Shelf
def zkK : Go.Shelf.Ren:=⟨fun|6=>101|15=>133|14=>134|28=>160|29=>161|20=>162|21=>163|22=>164|23=>165|24=>166|25=>167|26=>168|27=>169|46=>195|47=>190|48=>191|49=>196|50=>197|57=>202|n=>n,fun|22=>178|24=>180|25=>182|3=>3|39=>150|0=>0|53=>227|55=>43|4=>4|46=>232|45=>231|50=>190|5=>5|9=>9|66=>265|70=>269|76=>274|77=>275|n=>n,fun|n=>n⟩
theorem zmL : Go.Proofs.SlLaysF0.n6 Tryz.prog zkK := {
 mixed:=by kernel_rfl
 f6:=⟨Tryz.f101.name,by decide,Tryz.func101.trans (congrArg some (by kernel_rfl))⟩
 f14:=⟨Tryz.f134.name,by decide,Tryz.func134.trans (congrArg some (by kernel_rfl))⟩
 f15:=Tryz.func133.trans (congrArg some (by kernel_rfl))
 f20:=⟨Tryz.f162.name,by decide,Tryz.func162.trans (congrArg some (by kernel_rfl))⟩
 f21:=⟨Tryz.f163.name,by decide,Tryz.func163.trans (congrArg some (by kernel_rfl))⟩
 f22:=⟨Tryz.f164.name,by decide,Tryz.func164.trans (congrArg some (by kernel_rfl))⟩
 f23:=⟨Tryz.f165.name,by decide,Tryz.func165.trans (congrArg some (by kernel_rfl))⟩
 f24:=⟨Tryz.f166.name,by decide,Tryz.func166.trans (congrArg some (by kernel_rfl))⟩
 f25:=⟨Tryz.f167.name,by decide,Tryz.func167.trans (congrArg some (by kernel_rfl))⟩
 f26:=⟨Tryz.f168.name,by decide,Tryz.func168.trans (congrArg some (by kernel_rfl))⟩
 f27:=⟨Tryz.f169.name,by decide,Tryz.func169.trans (congrArg some (by kernel_rfl))⟩
 f28:=Tryz.func160.trans (congrArg some (by kernel_rfl))
 f29:=Tryz.func161.trans (congrArg some (by kernel_rfl))
 f46:=⟨Tryz.f195.name,by decide,Tryz.func195.trans (congrArg some (by kernel_rfl))⟩
 f47:=Tryz.func190.trans (congrArg some (by kernel_rfl))
 f48:=Tryz.func191.trans (congrArg some (by kernel_rfl))
 f49:=⟨Tryz.f196.name,by decide,Tryz.func196.trans (congrArg some (by kernel_rfl))⟩
 f50:=⟨Tryz.f197.name,by decide,Tryz.func197.trans (congrArg some (by kernel_rfl))⟩
 f57:=⟨Tryz.f202.name,by decide,Tryz.func202.trans (congrArg some (by kernel_rfl))⟩
 t0:=Tryz.underlying0
 a0:=Tryz.isAgg0
 z0:=Tryz.sizeOf0
 v0:=Tryz.zeroValue0
 t3:=Tryz.underlying3
 a3:=Tryz.isAgg3
 z3:=Tryz.sizeOf3
 v3:=Tryz.zeroValue3
 t4:=Tryz.underlying4
 a4:=Tryz.isAgg4
 z4:=Tryz.sizeOf4
 v4:=Tryz.zeroValue4
 t5:=Tryz.underlying5
 a5:=Tryz.isAgg5
 z5:=Tryz.sizeOf5
 v5:=Tryz.zeroValue5
 t9:=Tryz.underlying9
 a9:=Tryz.isAgg9
 z9:=Tryz.sizeOf9
 v9:=Tryz.zeroValue9
 t22:=Tryz.underlying178
 a22:=Tryz.isAgg178
 z22:=Tryz.sizeOf178
 v22:=Tryz.zeroValue178
 t25:=Tryz.underlying182
 a25:=Tryz.isAgg182
 z25:=Tryz.sizeOf182
 v25:=Tryz.zeroValue182
 t39:=Tryz.underlying150
 a39:=Tryz.isAgg150
 z39:=Tryz.sizeOf150
 v39:=Tryz.zeroValue150
 t45:=Tryz.underlying231
 a45:=Tryz.isAgg231
 z45:=Tryz.sizeOf231
 v45:=Tryz.zeroValue231
 t46:=Tryz.underlying232
 a46:=Tryz.isAgg232
 z46:=Tryz.sizeOf232
 v46:=Tryz.zeroValue232
 t50:=Tryz.underlying190
 a50:=Tryz.isAgg190
 z50:=Tryz.sizeOf190
 v50:=Tryz.zeroValue190
 t53:=Tryz.underlying227
 a53:=Tryz.isAgg227
 z53:=Tryz.sizeOf227
 v53:=Tryz.zeroValue227
 t55:=Tryz.underlying43
 a55:=Tryz.isAgg43
 z55:=Tryz.sizeOf43
 v55:=Tryz.zeroValue43
 t66:=Tryz.underlying265
 a66:=Tryz.isAgg265
 z66:=Tryz.sizeOf265
 v66:=Tryz.zeroValue265
 t70:=Tryz.underlying269
 a70:=Tryz.isAgg269
 z70:=Tryz.sizeOf269
 v70:=Tryz.zeroValue269
 t76:=Tryz.underlying274
 a76:=Tryz.isAgg274
 z76:=Tryz.sizeOf274
 v76:=Tryz.zeroValue274
 t77:=Tryz.underlying275
 a77:=Tryz.isAgg275
 z77:=Tryz.sizeOf275
 v77:=Tryz.zeroValue275 }
def zkL : Go.Shelf.Ren:=⟨fun|53=>89|64=>133|63=>132|78=>160|79=>161|70=>151|71=>152|72=>153|73=>154|74=>155|75=>156|59=>157|76=>158|77=>159|88=>189|89=>190|90=>191|91=>192|92=>193|68=>194|96=>201|n=>n,fun|22=>57|23=>3|3=>3|51=>150|0=>0|67=>227|69=>43|4=>4|61=>232|60=>231|44=>190|5=>5|9=>9|75=>265|79=>269|83=>274|84=>275|n=>n,fun|n=>n⟩
theorem zmM : Go.Proofs.SlLaysN.n53 Tryz.prog zkL := {
 mixed:=by kernel_rfl
 f53:=⟨Tryz.f89.name,by decide,Tryz.func89.trans (congrArg some (by kernel_rfl))⟩
 f59:=⟨Tryz.f157.name,by decide,Tryz.func157.trans (congrArg some (by kernel_rfl))⟩
 f63:=⟨Tryz.f132.name,by decide,Tryz.func132.trans (congrArg some (by kernel_rfl))⟩
 f64:=Tryz.func133.trans (congrArg some (by kernel_rfl))
 f68:=⟨Tryz.f194.name,by decide,Tryz.func194.trans (congrArg some (by kernel_rfl))⟩
 f70:=⟨Tryz.f151.name,by decide,Tryz.func151.trans (congrArg some (by kernel_rfl))⟩
 f71:=⟨Tryz.f152.name,by decide,Tryz.func152.trans (congrArg some (by kernel_rfl))⟩
 f72:=⟨Tryz.f153.name,by decide,Tryz.func153.trans (congrArg some (by kernel_rfl))⟩
 f73:=⟨Tryz.f154.name,by decide,Tryz.func154.trans (congrArg some (by kernel_rfl))⟩
 f74:=⟨Tryz.f155.name,by decide,Tryz.func155.trans (congrArg some (by kernel_rfl))⟩
 f75:=⟨Tryz.f156.name,by decide,Tryz.func156.trans (congrArg some (by kernel_rfl))⟩
 f76:=⟨Tryz.f158.name,by decide,Tryz.func158.trans (congrArg some (by kernel_rfl))⟩
 f77:=⟨Tryz.f159.name,by decide,Tryz.func159.trans (congrArg some (by kernel_rfl))⟩
 f78:=Tryz.func160.trans (congrArg some (by kernel_rfl))
 f79:=Tryz.func161.trans (congrArg some (by kernel_rfl))
 f88:=⟨Tryz.f189.name,by decide,Tryz.func189.trans (congrArg some (by kernel_rfl))⟩
 f89:=Tryz.func190.trans (congrArg some (by kernel_rfl))
 f90:=Tryz.func191.trans (congrArg some (by kernel_rfl))
 f91:=⟨Tryz.f192.name,by decide,Tryz.func192.trans (congrArg some (by kernel_rfl))⟩
 f92:=⟨Tryz.f193.name,by decide,Tryz.func193.trans (congrArg some (by kernel_rfl))⟩
 f96:=⟨Tryz.f201.name,by decide,Tryz.func201.trans (congrArg some (by kernel_rfl))⟩
 t0:=Tryz.underlying0
 a0:=Tryz.isAgg0
 z0:=Tryz.sizeOf0
 v0:=Tryz.zeroValue0
 t3:=Tryz.underlying3
 a3:=Tryz.isAgg3
 z3:=Tryz.sizeOf3
 v3:=Tryz.zeroValue3
 t4:=Tryz.underlying4
 a4:=Tryz.isAgg4
 z4:=Tryz.sizeOf4
 v4:=Tryz.zeroValue4
 t5:=Tryz.underlying5
 a5:=Tryz.isAgg5
 z5:=Tryz.sizeOf5
 v5:=Tryz.zeroValue5
 t9:=Tryz.underlying9
 a9:=Tryz.isAgg9
 z9:=Tryz.sizeOf9
 v9:=Tryz.zeroValue9
 t22:=Tryz.underlying57
 a22:=Tryz.isAgg57
 z22:=Tryz.sizeOf57
 v22:=Tryz.zeroValue57
 t23:=Tryz.underlying3
 a23:=Tryz.isAgg3
 z23:=Tryz.sizeOf3
 v23:=Tryz.zeroValue3
 t44:=Tryz.underlying190
 a44:=Tryz.isAgg190
 z44:=Tryz.sizeOf190
 v44:=Tryz.zeroValue190
 t51:=Tryz.underlying150
 a51:=Tryz.isAgg150
 z51:=Tryz.sizeOf150
 v51:=Tryz.zeroValue150
 t60:=Tryz.underlying231
 a60:=Tryz.isAgg231
 z60:=Tryz.sizeOf231
 v60:=Tryz.zeroValue231
 t61:=Tryz.underlying232
 a61:=Tryz.isAgg232
 z61:=Tryz.sizeOf232
 v61:=Tryz.zeroValue232
 t67:=Tryz.underlying227
 a67:=Tryz.isAgg227
 z67:=Tryz.sizeOf227
 v67:=Tryz.zeroValue227
 t69:=Tryz.underlying43
 a69:=Tryz.isAgg43
 z69:=Tryz.sizeOf43
 v69:=Tryz.zeroValue43
 t75:=Tryz.underlying265
 a75:=Tryz.isAgg265
 z75:=Tryz.sizeOf265
 v75:=Tryz.zeroValue265
 t79:=Tryz.underlying269
 a79:=Tryz.isAgg269
 z79:=Tryz.sizeOf269
 v79:=Tryz.zeroValue269
 t83:=Tryz.underlying274
 a83:=Tryz.isAgg274
 z83:=Tryz.sizeOf274
 v83:=Tryz.zeroValue274
 t84:=Tryz.underlying275
 a84:=Tryz.isAgg275
 z84:=Tryz.sizeOf275
 v84:=Tryz.zeroValue275 }
end Go.Proofs.YtcdhlofhhcgohaaGreat
