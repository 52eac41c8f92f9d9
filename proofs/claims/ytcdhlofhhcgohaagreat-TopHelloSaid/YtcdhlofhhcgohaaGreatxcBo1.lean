/- Rows of booleans. -/
import Derived.Test.YtcdhlofhhcgohaaGreatxfTalkOpens
import Derived.Test.YtcdhlofhhcgohaaGreatxcPlQ
import Derived.Test.YtcdhlofhhcgohaaGreatxcSet
import Derived.Test.YtcdhlofhhcgohaaGreatxdPlS
import Derived.Test.YtcdhlofhhcgohaaGreatxbFz
namespace Go.Proofs.YtcdhlofhhcgohaaGreat
open Go.RowKit
theorem play_loop {n:Net} (h0:n.wrong=(0,0)) {l:List Doing} (hl:l.length≤30):playA n 1 l=onLoop 0 l n (start0 n 1):=playA_loop (by rw[h0]) (by decide) (by decide) hl
theorem on_tick {i:Nat} {k:Int} {r:List Doing} {n:Net} {t:List (List Mind)} (hk:0≤k∧k≤200):onLoop i (⟨1,k,0,0⟩::r) n t=onLoop (i+1) r n (ticksN n t k.toNat):=by
 rw[onLoop,if_pos rfl,if_neg (by simp only;omega)]
theorem on_nil {i:Nat} {n:Net} {t:List (List Mind)}:onLoop i [] n t=(some (n,t),(0,0)):=by rw[onLoop]
theorem on_do {i:Nat} {d:Doing} {r:List Doing} {n n':Net} {t:List (List Mind)} (hk:d.kind≠1) (h:doS n d=(n',0)):onLoop i (d::r) n t=onLoop (i+1) r n' t:=by
 rw[onLoop,if_neg hk,h];rfl
theorem both_at {n:Net} {reg:Region} (h:n.good) (hr:∀ b∈n.bridges,b.region=reg) {tree:Nat} {r:Nat} {c:List Int} (hd:Dist n tree r c) {t1:List (List Mind)} (ht:goodT n t1) (hk:tree<t1.length) {T:Nat} (hT:90≤T) {i:Nat} (hi:i<n.bridges.length) {p:Int} (hp:p∈portsOf n.links i):opensT (ticksN n t1 T) tree i p=opX (planS n tree r c) i p:=by
 rw[opensT_at h ht hT hk hi hp,roleF_S h hr hd hi hp];rfl
theorem link_at {n:Net} {reg:Region} (h:n.good) (hr:∀ b∈n.bridges,b.region=reg) {tree:Nat} {r:Nat} {c:List Int} (hd:Dist n tree r c) {t1:List (List Mind)} (ht:goodT n t1) (hk:tree<t1.length) {T:Nat} (hT:90≤T) {x:Link} (hx:x∈n.links) :
  opensT (ticksN n t1 T) tree x.a x.pa=opX (planS n tree r c) x.a.toNat x.pa∧opensT (ticksN n t1 T) tree x.b x.pb=opX (planS n tree r c) x.b.toNat x.pb:=by
 have hl:=h.lk x hx
 have a0:=hl.a0
 have a1:=hl.a1
 have b0:=hl.b0
 have b1:=hl.b1
 obtain⟨pa,pb⟩:=port_mem h hx
 have ea:((x.a.toNat:Nat):Int)=x.a:=by omega
 have eb:((x.b.toNat:Nat):Int)=x.b:=by omega
 have h1:=both_at h hr hd ht hk hT (i:=x.a.toNat) (by omega) (by rw[ea];exact pa)
 have h2:=both_at h hr hd ht hk hT (i:=x.b.toNat) (by omega) (by rw[eb];exact pb)
 rw[ea]at h1
 rw[eb]at h2
 exact⟨h1,h2⟩
theorem line_one {k:Nat} {ring:Bool}:∀ b∈(lineN k ring).bridges,b.region=regR:=fun b hb=>by obtain⟨i,_,rfl⟩:=lineN_br hb;rfl
theorem countP_take {α:Type} {p:α→Bool} {l:List α} {k:Nat} {x:α} (h:l[k]? = some x):(l.take (k+1)).countP p=(l.take k).countP p+if p x=true then 1 else 0:=by
 rw[List.take_add_one,h,List.countP_append]
 cases hp:p x<;>simp[hp]
attribute [local irreducible] SStep DW DWin DOps thenQ inBlk loopQ retQ retQG FnF FnG FnI FnM Wk IntKind.wrap IntKind.andI IntKind.orI IntKind.xorI IntKind.andNotI IntKind.shlI IntKind.shrI playA onA ticksN tkN planF portsOf roleF opensT planS
set_option maxHeartbeats 8000000 in
theorem top_alive : FnF Tryz.prog 31 [] (.bool true):=by
 refine fnF_of Tryz.func31 rfl rfl rfl ?_
 simp only[envOf]
 have hln:FnF Tryz.prog 43 [.int .i64 3,.bool true] (lineN 3 true).v:=top_line 3 (by decide) true
 have hg:(lineN 3 true).good:=lineN_good (by decide) true
 have hp:=talk_Play (lineN 3 true) (lineN_typed 3 true) 1 [⟨1,90,0,0⟩]
 rw[play_loop (lineN_wrong (by decide) true) (by decide),on_tick (by decide),on_nil]at hp
 have htg:goodT (lineN 3 true) (ticksN (lineN 3 true) (start0 (lineN 3 true) 1) (90:Int).toNat):=ticksN_good (start0_good (by decide)) _
 have hop:=fun(x:Link) (hx:x∈(lineN 3 true).links)=>link_at hg line_one (tree:=0) (dist_of hg line_one (ring_dist 3 (by decide) (by decide))) (start0_good (trees:=1) (by decide)) (by simp[start0]) (T:=(90:Int).toNat) (by decide) hx
 have hct:(lineN 3 true).links.countP (bothX (planS (lineN 3 true) 0 0 (dRing 3 0)))=2:=ring_open 3 (by decide) (by decide)
 have hnl:(lineN 3 true).links.length=3:=by with_unfolding_all rfl
 have htk:=top_ticks 90
 generalize ticksN (lineN 3 true) (start0 (lineN 3 true) 1) (90:Int).toNat=t at hp htg hop
 change ∀ x,x∈(lineN 3 true).links→opensT t (0:Nat) x.a x.pa=opX (planS (lineN 3 true) (0:Nat) 0 (dRing 3 0)) x.a.toNat x.pa∧opensT t (0:Nat) x.b x.pb=opX (planS (lineN 3 true) (0:Nat) 0 (dRing 3 0)) x.b.toNat x.pb at hop
 generalize hps:planS (lineN 3 true) (0:Nat) 0 (dRing 3 0)=ps at hop hct
 generalize lineN 3 true=n at hln hg hp htg hop hct hnl
 clear hps
 change FnF _ _ _ (.tuple [n.v,talkV t,faultV (0,0)])at hp
 have hml:(n.links.map linkV).length=n.links.length:=by simp
 repeat' (first|refine qU ?_|refine qW ?_|((first|apply dX rfl|apply Da rfl rfl|apply Db rfl rfl qN);(focus ((try intro hg);first|exact S_call hln rfl|exact S_call htk rfl|exact S_call hp rfl|exact qMo));constructor)|refine qP ?_)
 refine DW_loop (fun j:Nat=>⟨[(1,.ptr 1 0),(2,.ptr 2 0),(3,.ptr 3 0),(4,.dat true (.int .i64 ((n.links.take j).countP (bothX ps)))),(16,.dat true (.slice (n.links.map linkV))),(17,.dat true (.int .i64 (n.links.map linkV).length)),(18,.dat true (.int .i64 j))],[(1,.cells false true (n.cells.map (.dat true))),(2,.cells false true [.dat true (.slice (t.map mindsRow))]),(3,.cells false true [.dat true (.int .i64 0),.dat true (.int .i64 0)])],46⟩)
  (fun j=>j≤n.links.length) (fun j=>n.links.length-j) 0 (Nat.zero_le _) (Wk_g some rfl rfl kq) (fun j hj=>?_)
 by_cases hlt:j<n.links.length
 ·have hx:n.links[(j:Int).toNat]? = some n.links[j]:=by simp[hlt]
  have hc:=countP_take (p:=bothX ps) (l:=n.links) (k:=j) (x:=n.links[j]) (by simp[hlt])
  have hcl:(n.links.take j).countP (bothX ps)≤40:=Nat.le_trans List.countP_le_length (by rw[List.length_take];omega)
  obtain⟨o1,o2⟩:=hop n.links[j] (List.getElem_mem hlt)
  generalize n.links[j]=x at hx hc o1 o2
  have ho1:=talk_Opens n hg t htg (0:Nat) x.a x.pa
  have ho2:=talk_Opens n hg t htg (0:Nat) x.b x.pb
  rw[o1]at ho1
  rw[o2]at ho2
  rw[show bothX ps x=(opX ps x.a.toNat x.pa && opX ps x.b.toNat x.pb)from rfl]at hc
  change FnF _ _ [talkV t,.int .i64 0,.int .i64 x.a,.int .i64 x.pa] _ at ho1
  change FnF _ _ [talkV t,.int .i64 0,.int .i64 x.b,.int .i64 x.pb] _ at ho2
  cases h1:opX ps x.a.toNat x.pa with
  | false =>
   rw[h1]at ho1 hc
   simp only[Bool.false_and,Bool.false_eq_true,if_false,Nat.add_zero]at hc
   repeat' (first|refine qU ?_|refine qW ?_|((first|apply dX rfl|apply Da rfl rfl|apply Db rfl rfl qN);(focus ((try intro hg);first|exact S_ixM rfl rfl (by omega) hx|exact S_call ho1 rfl|exact S_call ho2 rfl|exact qMo));constructor)|refine qP ?_)
   exact loop_again (j+1) hlt (by omega) (by rw[hc];exact Wk_g some rfl rfl kq)
  | true =>
   rw[h1]at ho1 hc
   cases h2:opX ps x.b.toNat x.pb with
   | false =>
    rw[h2]at ho2 hc
    simp only[Bool.and_false,Bool.false_eq_true,if_false,Nat.add_zero]at hc
    repeat' (first|refine qU ?_|refine qW ?_|((first|apply dX rfl|apply Da rfl rfl|apply Db rfl rfl qN);(focus ((try intro hg);first|exact S_ixM rfl rfl (by omega) hx|exact S_call ho1 rfl|exact S_call ho2 rfl|exact qMo));constructor)|refine qP ?_)
    exact loop_again (j+1) hlt (by omega) (by rw[hc];exact Wk_g some rfl rfl kq)
   | true =>
    rw[h2]at ho2 hc
    simp only[Bool.and_self,if_true]at hc
    repeat' (first|refine qU ?_|refine qW ?_|((first|apply dX rfl|apply Da rfl rfl|apply Db rfl rfl qN);(focus ((try intro hg);first|exact S_ixM rfl rfl (by omega) hx|exact S_call ho1 rfl|exact S_call ho2 rfl|exact qMo));constructor)|refine qP ?_)
    exact loop_again (j+1) hlt (by omega) (by rw[hc];exact Wk_g some rfl rfl kq)
 ·rw[List.take_of_length_le (by omega),hct]
  repeat' (first|refine qU ?_|refine qW ?_|((first|apply dX rfl|apply Da rfl rfl|apply Db rfl rfl qN);(focus ((try intro hg);first|exact qMo));constructor)|refine qP ?_)
  refine ret1 rfl qF ?_
  rfl
end Go.Proofs.YtcdhlofhhcgohaaGreat
namespace Go.Proofs.YtcdhlofhhcgohaaGreat
def bv (s:List Bool) (i:Nat):Bool:=(s[i]?).getD false
def rcS (s:List Bool) (l:Link):List Bool:=if bv s l.a.toNat || bv s l.b.toNat then(s.set l.a.toNat true).set l.b.toNat true else s
def rcR (ls:List Link) (s:List Bool):List Bool:=ls.foldl rcS s
def rcN (ls:List Link) (s:List Bool):Nat→List Bool
 | 0=>s
 | t+1=>rcR ls (rcN ls s t)
theorem bv_set {s:List Bool} {i j:Nat} (h:i<s.length):bv (s.set i true) j=(decide (i=j) || bv s j):=by
 unfold bv
 by_cases e:i=j
 ·subst e;rw[List.getElem?_set_self h];simp
 ·rw[List.getElem?_set_ne e];simp[e]
theorem bv_lt {s:List Bool} {i:Nat} (h:bv s i=true):i<s.length:=Classical.byContradiction fun hn=>by
 unfold bv at h
 rw[List.getElem?_eq_none (by omega)]at h
 cases h
theorem rcS_len (s:List Bool) (l:Link):(rcS s l).length=s.length:=by
 unfold rcS;split<;>simp
theorem rcR_len : ∀ (ls:List Link) (s:List Bool),(rcR ls s).length=s.length
 | [],s=>rfl
 | l::r,s=>by
  show(rcR r (rcS s l)).length=_
  rw[rcR_len r,rcS_len]
theorem rcN_len (ls:List Link) (s:List Bool):∀ t,(rcN ls s t).length=s.length
 | 0=>rfl
 | t+1=>by rw[rcN,rcR_len,rcN_len ls s t]
theorem rcS_bv {s:List Bool} {l:Link} {k:Nat} (hk:s.length=k) (ha:l.a.toNat<k) (hb:l.b.toNat<k) (j:Nat):bv (rcS s l) j=(bv s j || ((bv s l.a.toNat || bv s l.b.toNat) && (decide (l.a.toNat=j) || decide (l.b.toNat=j)))):=by
 unfold rcS
 cases hq:(bv s l.a.toNat || bv s l.b.toNat)
 ·simp
 ·simp only[if_true,Bool.true_and]
  rw[bv_set (by simp;omega),bv_set (by omega)]
  cases bv s j<;>cases decide (l.a.toNat=j)<;>cases decide (l.b.toNat=j)<;>rfl
def endsK (k:Nat) (ls:List Link):Prop:=∀ l∈ls,l.a.toNat<k∧l.b.toNat<k
theorem rcR_mono {k:Nat}:∀ {ls:List Link} {s:List Bool},s.length=k→endsK k ls→∀ j,bv s j=true→bv (rcR ls s) j=true
 | [],s,_,_,j,h=>h
 | l::r,s,hk,hl,j,h=>by
  refine rcR_mono (ls:=r) (by rw[rcS_len];exact hk) (fun x hx=>hl x (by simp[hx])) j ?_
  rw[rcS_bv hk (hl l (by simp)).1 (hl l (by simp)).2,h];rfl
theorem rcR_both {k:Nat}:∀ {ls:List Link} {s:List Bool},s.length=k→endsK k ls→∀ l∈ls,(bv s l.a.toNat=true∨bv s l.b.toNat=true)→bv (rcR ls s) l.a.toNat=true∧bv (rcR ls s) l.b.toNat=true
 | [],_,_,_,l,h,_=>by cases h
 | x::r,s,hk,hl,l,h,hq=>by
  have h1:(rcS s x).length=k:=by rw[rcS_len];exact hk
  have h2:endsK k r:=fun y hy=>hl y (by simp[hy])
  have hx:=hl x (by simp)
  rcases List.mem_cons.1 h with rfl|h
  ·have e:(bv s l.a.toNat || bv s l.b.toNat)=true:=by rcases hq with e|e<;>simp[e]
   refine⟨rcR_mono h1 h2 _ ?_,rcR_mono h1 h2 _ ?_⟩<;>rw[rcS_bv hk hx.1 hx.2,e]<;>simp
  ·refine rcR_both h1 h2 l h ?_
   rcases hq with e|e
   ·exact .inl (by rw[rcS_bv hk hx.1 hx.2,e];rfl)
   ·exact .inr (by rw[rcS_bv hk hx.1 hx.2,e];rfl)
theorem rcR_sound {k:Nat} {all:List Link} {b:Nat}:∀ {ls:List Link} {s:List Bool},s.length=k→endsK k ls→(∀ l∈ls,l∈all)→(∀ j,bv s j=true→Conn all b j)→∀ j,bv (rcR ls s) j=true→Conn all b j
 | [],_,_,_,_,h,j,hj=>h j hj
 | l::r,s,hk,hl,hs,h,j,hj=>by
  have hx:=hl l (by simp)
  refine rcR_sound (ls:=r) (by rw[rcS_len];exact hk) (fun x hx=>hl x (by simp[hx])) (fun x hx=>hs x (by simp[hx])) (fun i hi=>?_) j hj
  rw[rcS_bv hk hx.1 hx.2]at hi
  cases h1:bv s i
  ·rw[h1]at hi
   simp only[Bool.false_or,Bool.and_eq_true,Bool.or_eq_true,decide_eq_true_eq]at hi
   obtain⟨h2,h3⟩:=hi
   have hab:Conn all b l.a.toNat∧Conn all b l.b.toNat:=by
    rcases h2 with h2|h2
    ·exact⟨h _ h2,.ab (h _ h2) (hs l (by simp))⟩
    ·exact⟨.ba (h _ h2) (hs l (by simp)),h _ h2⟩
   rcases h3 with rfl|rfl
   ·exact hab.1
   ·exact hab.2
  ·exact h i h1
def closedB (ls:List Link) (s:List Bool):Prop:=∀ l∈ls,bv s l.a.toNat=bv s l.b.toNat
theorem rcR_closed {k:Nat}:∀ {ls:List Link} {s:List Bool},s.length=k→endsK k ls→closedB ls s→∀ j,bv (rcR ls s) j=bv s j
 | [],_,_,_,_,_=>rfl
 | l::r,s,hk,hl,hc,j=>by
  have hx:=hl l (by simp)
  have e:∀ i,bv (rcS s l) i=bv s i:=fun i=>by
   rw[rcS_bv hk hx.1 hx.2,hc l (by simp),Bool.or_self]
   by_cases h1:l.a.toNat=i
   ·have:=hc l (by simp)
    rw[h1]at this
    rw[←this]
    cases bv s i<;>simp
   ·by_cases h2:l.b.toNat=i
    ·rw[h2];cases bv s i<;>simp
    ·simp[h1,h2]
  have:=rcR_closed (ls:=r) (s:=rcS s l) (by rw[rcS_len];exact hk) (fun x hx=>hl x (by simp[hx])) (fun x hx=>by rw[e,e];exact hc x (by simp[hx])) j
  exact this.trans (e j)
theorem rcN_count {k:Nat} {ls:List Link} {s:List Bool} (hk:s.length=k) (hl:endsK k ls) {b:Nat} (hb:bv s b=true):∀ t,closedB ls (rcN ls s t)∨t+1≤(List.range k).countP fun j=>bv (rcN ls s t) j
 | 0=>.inr (List.countP_pos_iff.2 ⟨b,List.mem_range.2 (by have:=bv_lt hb;omega),hb⟩)
 | t + 1=>by
  have hlen:(rcN ls s t).length=k:=by rw[rcN_len];exact hk
  rcases Classical.em (closedB ls (rcN ls s t))with hc|hc
  ·refine .inl fun l hl'=>?_
   rw[rcN,rcR_closed hlen hl hc,rcR_closed hlen hl hc];exact hc l hl'
  ·rcases rcN_count hk hl hb t with h|h
   ·exact absurd h hc
   ·right
    obtain⟨l,hl',hne⟩:∃ l∈ls,bv (rcN ls s t) l.a.toNat≠bv (rcN ls s t) l.b.toNat:=Classical.byContradiction fun hn=>hc fun l hl'=>Classical.byContradiction fun h2=>hn ⟨l,hl',h2⟩
    have hor:bv (rcN ls s t) l.a.toNat=true∨bv (rcN ls s t) l.b.toNat=true:=by
     cases h1:bv (rcN ls s t) l.a.toNat<;>cases h2:bv (rcN ls s t) l.b.toNat<;>simp_all
    have hboth:=rcR_both hlen hl l hl' hor
    refine Nat.lt_of_le_of_lt h (countP_lt (fun x _ hx=>rcR_mono hlen hl x hx) ?_)
    have hkl:=hl l hl'
    cases h1:bv (rcN ls s t) l.a.toNat
    ·exact⟨_,List.mem_range.2 hkl.1,h1,hboth.1⟩
    ·cases h2:bv (rcN ls s t) l.b.toNat
     ·exact⟨_,List.mem_range.2 hkl.2,h2,hboth.2⟩
     ·rw[h1,h2]at hne;exact absurd rfl hne
theorem rcN_sound {k:Nat} {ls:List Link} {s:List Bool} (hk:s.length=k) (hl:endsK k ls) {b:Nat} (h:∀ j,bv s j=true→Conn ls b j):∀ t j,bv (rcN ls s t) j=true→Conn ls b j
 | 0=>h
 | t+1=>rcR_sound (by rw[rcN_len];exact hk) hl (fun _ h=>h) (rcN_sound hk hl h t)
theorem rcN_mono {k:Nat} {ls:List Link} {s:List Bool} (hk:s.length=k) (hl:endsK k ls) {b:Nat} (h:bv s b=true):∀ t,bv (rcN ls s t) b=true
 | 0=>h
 | t+1=>rcR_mono (by rw[rcN_len];exact hk) hl b (rcN_mono hk hl h t)
def reach0 (k b:Nat):List Bool:=(List.replicate k false).set b true
theorem rcN_all {k:Nat} {ls:List Link} (hl:endsK k ls) {b:Nat} (hb:b<k) (j:Nat):bv (rcN ls (reach0 k b) k) j=true↔Conn ls b j:=by
 have hk:(reach0 k b).length=k:=by simp[reach0]
 have h0:bv (reach0 k b) b=true:=by unfold reach0;rw[bv_set (by simpa using hb)];simp
 have hz:∀ j,bv (List.replicate k false) j=false:=fun j=>by
  unfold bv
  rw[List.getElem?_replicate]
  split<;>rfl
 constructor
 ·refine rcN_sound hk hl (fun i hi=>?_) k j
  unfold reach0 at hi
  rw[bv_set (by simpa using hb),hz]at hi
  simp at hi
  subst hi;exact .refl _
 ·have hc:closedB ls (rcN ls (reach0 k b) k):=by
   rcases rcN_count hk hl h0 k with h|h
   ·exact h
   ·have:=List.countP_le_length (p:=fun j=>bv (rcN ls (reach0 k b) k) j) (l:=List.range k)
    rw[List.length_range]at this
    omega
  intro hcn
  have hm:=rcN_mono hk hl h0 k
  induction hcn with
  | refl=>exact hm
  | ab _ hl' ih=>rw[←hc _ hl'];exact ih
  | ba _ hl' ih=>rw[hc _ hl'];exact ih
theorem endsK_live {n:Net} (h:n.good):endsK n.bridges.length (liveL n):=fun l hl=>by
 obtain⟨h1,h2,_⟩:=live_in h l hl
 exact⟨h1,h2⟩
theorem first_root {n:Net} (h:n.good) (tree:Int) {b:Nat} (hb:b<n.bridges.length) (hmin:∀ j,j<n.bridges.length→j≠b→idN n tree b<idN n tree j) {i:Nat} (hi:i<n.bridges.length):(sF n tree i).root=idN n tree b↔Conn (liveL n) b i:=by
 have low:∀ j,j<n.bridges.length→idN n tree b≤idN n tree j:=fun j hj=>by
  by_cases e:j=b
  ·subst e;exact Int.le_refl _
  ·exact Int.le_of_lt (hmin j hj e)
 have hr:(sF n tree b).root=idN n tree b:=by
  have h1:=fin_own h tree hb
  have hc:=fin_cost h tree hb
  obtain⟨r,r1,_,r3⟩:=fin_thereC h tree (sF n tree b).cost.toNat hb (by omega)
  have:=low r r1
  unfold leL at h1
  omega
 constructor
 ·intro he
  have hc:=fin_cost h tree hi
  obtain⟨r,r1,r2,r3⟩:=fin_thereC h tree (sF n tree i).cost.toNat hi (by omega)
  have:r=b:=Classical.byContradiction fun hne=>by have:=hmin r r1 hne;omega
  subst this
  exact r2.symm
 ·intro hc
  rw[←conn_root h tree hc];exact hr
end Go.Proofs.YtcdhlofhhcgohaaGreat
namespace Go.Proofs.YtcdhlofhhcgohaaGreat
open Go.RowKit
def boolV1 (b:Bool):List V := [.bool b]
instance : CellsI boolV1 1:=⟨fun _=>rfl,fun _ d h=>by simp[boolV1]at h;subst h;rfl⟩
instance : FlatI boolV1:=⟨fun _ d h=>by simp[boolV1]at h;subst h;exact .bool _⟩
end Go.Proofs.YtcdhlofhhcgohaaGreat
