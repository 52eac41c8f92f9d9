/- Law: TopHello. -/
import Derived.Test.YtcdhlofhhcgohaaGreatxbLnd
import Derived.Test.YtcdhlofhhcgohaaGreatxbNst
import Derived.Test.YtcdhlofhhcgohaaGreatxcBo1
import Derived.Test.YtcdhlofhhcgohaaGreatxcPlV
import Derived.Test.YtcdhlofhhcgohaaGreatxcSrt
import Derived.Test.YtcdhlofhhcgohaaGreatxdHel
namespace Go.Proofs.YtcdhlofhhcgohaaGreat
open Go.RowKit
structure okM (m:Mind):Prop where
 r:0≤m.vec.root∧m.vec.root≤18446744073709551615
 b:0≤m.vec.bridge∧m.vec.bridge≤18446744073709551615
 c:0≤m.vec.cost∧m.vec.cost≤1000000000
 p:m.vec.port=0
 a:0≤m.age∧m.age≤20
def sayT (t:List (List Mind)):Prop:=∀ l∈t,∀ m∈l,okM m
theorem idN_in {n:Net} (h:n.good) (tree:Int) {i:Nat} (hi:i<n.bridges.length):0≤idN n tree i∧idN n tree i≤18446744073709551615:=by
 rw[idN_of (List.getElem?_eq_getElem hi)]
 exact Bridge.id_in (h.br _ (List.getElem_mem hi)) tree
theorem mind_okM {n:Net} (h:n.good) (tree:Int) {i:Nat} (hi:i<n.bridges.length) {l:List Mind} (hl:l.length=n.bridges.length) (ho:∀ m∈l,okM m):okM (mindOf n tree i (endsOf n i) l):=by
 have hid:=idN_in h tree hi
 refine⟨?_,hid,?_,rfl,?_⟩<;>rcases mind_cases h tree i l with⟨_,h2,h3,h4,_⟩|⟨e,he,hq,_,h4,h5,h6,_⟩
 ·rw[h3];exact hid
 ·rw[h5]
  have hj:=(adj_ok h he).2.2.1
  exact(ho _ (List.mem_of_getElem? (mAt_get (l:=l) (i:=e.other.toNat) (by omega)))).r
 ·rw[h4];omega
 ·rw[h6]
  have:=hq.c0;have:=hq.c1
  have:=(adj_ok h he).2.1
  omega
 ·rw[h2];omega
 ·rw[h4]
  have:=hq.a0;have:=hq.a1
  omega
theorem okT_tick {n:Net} (h:n.good) {t:List (List Mind)} (hg:goodT n t) (ho:sayT t):sayT (tickN n t):=fun l hl m hm=>by
 unfold tickN at hl
 obtain⟨k,hk,rfl⟩:=List.mem_map.1 hl
 have hk:=List.mem_range.1 hk
 rw[List.getElem?_eq_getElem hk,Option.getD_some]at hm
 unfold tickT at hm
 obtain⟨i,hi,rfl⟩:=List.mem_map.1 hm
 have hi:=List.mem_range.1 hi
 have hlk:=(hg.m t[k] (List.getElem_mem hk)).1
 exact mind_okM h k (by omega) hlk (ho _ (List.getElem_mem hk))
theorem okT_ticks {n:Net} (h:n.good) {t:List (List Mind)} (hg:goodT n t) (ho:sayT t):∀ k,sayT (ticksN n t k)
 | 0=>ho
 | k+1=>okT_tick h (ticksN_good hg k) (okT_ticks h hg ho k)
theorem okT_start {n:Net} (h:n.good) (trees:Nat):sayT (start0 n trees):=fun l hl m hm=>by
 unfold start0 at hl
 obtain⟨k,_,rfl⟩:=List.mem_map.1 hl
 obtain⟨i,hi,rfl⟩:=List.mem_map.1 hm
 have hid:=idN_in h (k:Int) (List.mem_range.1 hi)
 exact⟨hid,hid,⟨Int.le_refl _,by show(0:Int)≤_;decide⟩,rfl,⟨Int.le_refl _,by show(0:Int)≤_;decide⟩⟩
theorem okT_loop : ∀ (l:List Doing) (i:Nat) (n:Net) (t:List (List Mind)),n.good→goodT n t→sayT t→∀ r,(onLoop i l n t).1=some r→sayT r.2
 | [],i,n,t,h,ht,ho,r,hr=>by
  rw[onLoop]at hr
  injection hr with hr
  subst hr;exact ho
 | d::l,i,n,t,h,ht,ho,r,hr=>by
  rw[onLoop]at hr
  by_cases h1:d.kind=1
  ·rw[if_pos h1]at hr
   by_cases h2:d.n<0∨200<d.n
   ·rw[if_pos h2]at hr;cases hr
   ·rw[if_neg h2]at hr
    exact okT_loop l _ _ _ h (ticksN_good ht _) (okT_ticks h ht ho _) r hr
  ·rw[if_neg h1]at hr
   have hg:=doS_good h d
   have hk:=doS_kin n d
   generalize doS n d=q at hr hg hk
   obtain⟨n',e⟩:=q
   by_cases h2:e≠0
   ·simp only[if_pos h2]at hr;cases hr
   ·simp only[if_neg h2]at hr
    exact okT_loop l (i+1) n' t (hg (by simpa using h2)) (goodT_kin hk ht) ho r hr
def taleOf (k:Nat) (m:Mind):Tale:=⟨k,m.vec.root,m.vec.cost,m.vec.bridge,m.vec.port,m.age⟩
def talesOf (t:List (List Mind)) (b:Nat):List Tale:=(List.range t.length).map fun k=>taleOf k (mAt ((t[k]?).getD []) b)
theorem talesW_ok : ∀ (ts:List Tale) (last:Int),(∀ t∈ts,¬t.bad∧last<t.tree)→ts.Pairwise (fun a b=>a.tree<b.tree)→talesW last ts=0
 | [],_,_,_=>rfl
 | t::r,last,h,hp=>by
  obtain⟨p1,p2⟩:=List.pairwise_cons.1 hp
  have h1:=h t (by simp)
  rw[talesW,if_neg h1.1,if_neg (by omega)]
  exact talesW_ok r t.tree (fun u hu=>⟨(h u (by simp[hu])).1,p1 u hu⟩) p2
def helloOf (t:List (List Mind)) (b:Nat) (r:Region):Hello:=⟨digestR r.ways,talesOf t b⟩
theorem helloOf_ok {n:Net} {t:List (List Mind)} (hg:goodT n t) (ho:sayT t) {b:Nat} (hb:b<n.bridges.length) (r:Region):(helloOf t b r).ok∧(helloOf t b r).wrong=0:=by
 have key:∀ u∈talesOf t b,u.ok∧¬u.bad∧(-1:Int)<u.tree:=fun u hu=>by
  unfold talesOf at hu
  obtain⟨k,hk,rfl⟩:=List.mem_map.1 hu
  have hk:=List.mem_range.1 hk
  rw[List.getElem?_eq_getElem hk,Option.getD_some]
  have hl:=(hg.m t[k] (List.getElem_mem hk)).1
  have hm:=ho _ (List.getElem_mem hk) _ (List.mem_of_getElem? (mAt_get (l:=t[k]) (i:=b) (by omega)))
  have:=hg.l
  obtain⟨m1,m2,m3,m4,m5⟩:=hm
  refine⟨⟨m1.1,m1.2,m2.1,m2.2⟩,?_,by show(-1:Int)<(k:Int);omega⟩
  unfold Tale.bad taleOf
  simp only
  omega
 have hlen:(talesOf t b).length≤4:=by unfold talesOf;rw[List.length_map,List.length_range];exact hg.l
 refine⟨⟨fun u hu=>(key u hu).1,by show(talesOf t b).length≤_;omega,by show(digestR r.ways).length≤_;rw[digestR_len];decide⟩,?_⟩
 unfold Hello.wrong
 rw[if_pos (by show(digestR r.ways).length=16;exact digestR_len _)]
 refine talesW_ok _ _ (fun u hu=>(key u hu).2) ?_
 show(talesOf t b).Pairwise _
 unfold talesOf
 rw[List.pairwise_map]
 exact List.pairwise_lt_range.imp fun h=>by simp only[taleOf];omega
theorem mask_40 {a:Int} (h:0≤a) (h2:a≤281474976710655):0≤IntKind.u64.andNotI a 1099511627776∧IntKind.u64.andNotI a 1099511627776≤281474976710655∧IntKind.u64.andNotI a 1099511627776 / 1099511627776 % 2=0:=by
 unfold IntKind.andNotI
 have hb:IntKind.u64.bits=64:=rfl
 rw[hb]
 have e1:(BitVec.ofInt 64 a).toNat=a.toNat:=ofInt_toNat64 h (by omega)
 have e2:(BitVec.ofInt 64 a &&& ~~~BitVec.ofInt 64 1099511627776).toNat≤a.toNat:=by
  rw[BitVec.toNat_and,e1];exact Nat.and_le_left
 have e3:(BitVec.ofInt 64 a &&& ~~~BitVec.ofInt 64 1099511627776).toNat.testBit 40=false:=by
  rw[BitVec.toNat_and,Nat.testBit_and]
  have:(~~~BitVec.ofInt 64 1099511627776).toNat.testBit 40=false:=by decide +kernel
  rw[this,Bool.and_false]
 generalize (BitVec.ofInt 64 a &&& ~~~BitVec.ofInt 64 1099511627776).toNat=x at e2 e3
 rw[wrap_u64]
 have e4:x / 1099511627776 % 2=0:=by
  rw[Nat.testBit,Nat.shiftRight_eq_div_pow]at e3
  simp only[Nat.reducePow,Nat.one_and_eq_mod_two,bne_eq_false_iff_eq]at e3
  omega
 omega
theorem nodup_len : ∀ (k:Nat) (l:List Int),l.Nodup→(∀ x∈l,1≤x∧x≤k)→l.length≤k
 | 0,[],_,_=>Nat.le_refl _
 | 0,a::r,_,h=>by have:=h a (by simp);omega
 | k+1,l,hn,h=>by
  by_cases hm:((k+1:Nat):Int)∈l
  ·obtain⟨s,u,rfl⟩:=List.append_of_mem hm
   have hn2:=(List.perm_middle.nodup_iff).1 hn
   obtain⟨h1,h2⟩:=List.nodup_cons.1 hn2
   have:=nodup_len k (s++u) h2 (fun x hx=>by
    have h3:=h x (by simp only[List.mem_append,List.mem_cons]at hx ⊢;rcases hx with hx|hx<;>simp[hx])
    have:x≠((k+1:Nat):Int):=fun e=>h1 (e▸hx)
    omega)
   simp only[List.length_append,List.length_cons]at this ⊢
   omega
  ·have:=nodup_len k l hn (fun x hx=>by
    have h3:=h x hx
    have:x≠((k+1:Nat):Int):=fun e=>hm (e▸hx)
    omega)
   omega
theorem plain_ok {d s ty:Int} {bs:List UInt8} (h1:0≤d) (h2:d≤18446744073709551615) (h3:0≤s) (h4:s≤18446744073709551615) (h5 : -9223372036854775808≤ty) (h6:ty≤9223372036854775807) (h7:bs.length≤9223372036854775807):Frame.ok ⟨d,s,false,0,false,0,ty,bs⟩ :=
 ⟨h1,h2,h3,h4,by show(-9223372036854775808:Int)≤0;decide,by show(0:Int)≤9223372036854775807;decide,by show(-9223372036854775808:Int)≤0;decide,by show(0:Int)≤9223372036854775807;decide,h5,h6,h7⟩
theorem ports_few {n:Net} (h:n.good) (b:Nat):(portsOf n.links b).length≤30:=by
 have hp:(portsOf n.links b).Perm (rawP n.links b):=List.mergeSort_perm _ _
 rw[hp.length_eq]
 have hmem:∀ x∈rawP n.links b,((b:Int),x)∈sidesP n.links:=fun x hx=>by
  unfold rawP at hx
  obtain⟨l,hl,hx⟩:=List.mem_flatMap.1 hx
  refine List.mem_flatMap.2 ⟨l,hl,?_⟩
  unfold portAt at hx
  rcases List.mem_append.1 hx with hx|hx
  ·split at hx
   ·rename_i e
    simp only[List.mem_singleton]at hx;subst hx;rw[e];simp
   ·cases hx
  ·split at hx
   ·rename_i e
    simp only[List.mem_singleton]at hx;subst hx;rw[e];simp
   ·cases hx
 have hnd:(rawP n.links b).Nodup:=by
  have hsub:∀ ls:List Link,((rawP ls b).map fun x=>((b:Int),x)).Sublist (sidesP ls):=fun ls=>by
   induction ls with
   | nil=>exact .slnil
   | cons l r ih =>
    have e1:rawP (l::r) b=portAt b l++rawP r b:=rfl
    have e2:sidesP (l::r)=[(l.a,l.pa),(l.b,l.pb)]++sidesP r:=rfl
    rw[e1,e2,List.map_append]
    refine List.Sublist.append ?_ ih
    unfold portAt
    by_cases ha:l.a=b<;>by_cases hb:l.b=b<;>simp[ha,hb]
  have:=(hsub n.links).nodup h.po
  exact List.Pairwise.of_map _ (fun a b hne e=>hne (by rw[e])) this
 refine nodup_len 30 _ hnd fun x hx=>?_
 obtain⟨l,hl,hm⟩:=List.mem_flatMap.1 (hmem x hx)
 have hk:=h.lk l hl
 have:=hk.pa
 have:=hk.pb
 simp only[List.mem_cons,Prod.mk.injEq,List.mem_nil_iff,or_false]at hm
 rcases hm with⟨_,rfl⟩|⟨_,rfl⟩<;>omega
attribute [local irreducible] SStep DW DWin DOps thenQ inBlk loopQ retQ retQG FnF FnG FnI FnM Wk IntKind.wrap IntKind.andI IntKind.orI IntKind.xorI IntKind.andNotI IntKind.shlI IntKind.shrI playA onA ticksN tkN planF portsOf roleF opensT planS digestR Hello.wrong Hello.outB Frame.wrong Frame.outB
set_option maxHeartbeats 8000000 in
theorem law_TopHello (n:Net) (ht:n.typed) (trees:Int) (l:List Doing) (bridge:Int):FnF Tryz.prog 8 [n.v,.int .i64 trees,.slice (l.map Doing.cells),.int .i64 bridge] (.bool true):=by
 refine fnF_of Tryz.func8 rfl rfl rfl ?_
 simp only[envOf]
 have hp:=talk_Play n ht trees l
 rcases playA_cases ht trees l with⟨f,hf,hne⟩|⟨hg,h0,h1,h2,hl,⟨m,t⟩,hon,hpl⟩
 ·rw[hf]at hp
  obtain⟨e,k⟩:=f
  simp only at hne
  rw[show onV (none,(e,k)) = .tuple [Net.v ⟨[],[]⟩,talkV [],faultV (e,k)] by with_unfolding_all rfl]at hp
  repeat' (first|refine qU ?_|refine qW ?_|((first|apply dX rfl|apply Da rfl rfl|apply Db rfl rfl qN);(focus ((try intro hg);first|exact S_call top_alive rfl|exact S_call hp rfl|exact qMo));constructor)|refine qP ?_)
  refine ret1 rfl qF ?_
  rfl
 rw[hpl]at hp
 rw[show onV (some (m,t),(0,0)) = .tuple [m.v,talkV t,faultV (0,0)] by with_unfolding_all rfl]at hp
 obtain⟨mg,mt,m0,mk,mgt,mtl⟩:=play_two ht hpl hg h0 h1 h2 hon
 have hok:sayT t:=okT_loop l 0 n (start0 n trees.toNat) hg (start0_good (by omega)) (okT_start hg _) (m,t) (by rw[hon])
 have hmb:(m.bridges.map bridgeV).length=m.bridges.length:=by simp
 have hnb:=mg.nb
 by_cases c1:bridge<0
 ·repeat' (first|refine qU ?_|refine qW ?_|((first|apply dX rfl|apply Da rfl rfl|apply Db rfl rfl qN);(focus ((try intro hg);first|exact S_call top_alive rfl|exact S_call hp rfl|exact qMo));constructor)|refine qP ?_)
  refine ret1 rfl qF ?_
  rfl
 by_cases c2:(m.bridges.length:Int)≤bridge
 ·repeat' (first|refine qU ?_|refine qW ?_|((first|apply dX rfl|apply Da rfl rfl|apply Db rfl rfl qN);(focus ((try intro hg);first|exact S_call top_alive rfl|exact S_call hp rfl|exact qMo));constructor)|refine qP ?_)
  refine ret1 rfl qF ?_
  rfl
 obtain⟨B,rfl⟩:∃ B:Nat,bridge=(B:Int):=⟨bridge.toNat,by omega⟩
 have hB:B<m.bridges.length:=by omega
 obtain⟨b,hb0⟩:∃ b,m.bridges[B]? = some b:=⟨_,List.getElem?_eq_getElem hB⟩
 have hb:m.bridges[(B:Int).toNat]? = some b:=hb0
 have hbo:=mg.br b (List.mem_of_getElem? hb0)
 have hdg:=region_Digest b.region hbo.r
 obtain⟨hhk,hhw⟩:=helloOf_ok mgt hok hB b.region
 have hts:(helloOf t B b.region).tales=talesOf t B:=rfl
 have hdl:(digestR b.region.ways).length=16:=digestR_len _
 have hhd:(helloOf t B b.region).digest=digestR b.region.ways:=rfl
 have hol:=Hello.outB_len (helloOf t B b.region)
 have hby:=hello_Bytes (helloOf t B b.region) hhk
 have hpa:=hello_Parse (helloOf t B b.region).outB (by omega)
 obtain⟨hb1,hb2⟩:=Hello.outB_back hhk hhw
 rw[hb1,hb2]at hpa
 rw[hhw]at hby
 have hsm0:=ref4_Same (helloOf t B b.region) (by have:=hhk.2.1;omega)
 have hwh:(helloOf t B b.region).v = .agg [.slice ((digestR b.region.ways).map byteV),.slice (((talesOf t B).map Tale.cells).drop 0 |>.take (talesOf t B).length)]:=by
  rw[whole_eq rfl];rfl
 have hsm:FnF Tryz.prog 38 [(helloOf t B b.region).v,.agg [.slice ((digestR b.region.ways).map byteV),.slice (((talesOf t B).map Tale.cells).drop 0 |>.take (talesOf t B).length)]] (.bool true):=by rw[←hwh];exact hsm0
 rw[hwh]at hby
 generalize (helloOf t B b.region).outB=bs at hol hby hpa
 obtain⟨k0,k1,k2⟩:=mask_40 hbo.a0 hbo.a1
 obtain⟨sr,hsr⟩:∃ sr,sr=IntKind.u64.andNotI b.addr 1099511627776:=⟨_,rfl⟩
 rw[←hsr]at k0 k1 k2
 have hfo:Frame.ok ⟨1652522221568,sr,false,0,false,0,34952,bs⟩:=plain_ok (by decide) (by decide) k0 (by omega) (by decide) (by decide) (by omega)
 have hfw:Frame.wrong ⟨1652522221568,sr,false,0,false,0,34952,bs⟩=0:=by
  with_unfolding_all
   unfold Frame.wrong
   rw[if_neg (by simp only;omega),if_neg (by simp only;omega),if_neg (by simp),if_neg (by simp only;omega),if_neg (by simp only;omega)]
 have hfb:=fBytes _ hfo
 rw[hfw]at hfb
 have hfl:=Frame.outB_len ⟨1652522221568,sr,false,0,false,0,34952,bs⟩
 have hfp:=fParse (Frame.outB ⟨1652522221568,sr,false,0,false,0,34952,bs⟩) (by omega)
 obtain⟨f1,f2⟩:=Frame.outB_back hfo hfw
 rw[f1,f2]at hfp
 rw[show Frame.back ⟨1652522221568,sr,false,0,false,0,34952,bs⟩=⟨1652522221568,sr,false,0,false,0,34952,bs⟩from rfl]at hfp
 have hrw:=ref2_Wrong _ hfo
 rw[hfw]at hrw
 generalize Frame.outB ⟨1652522221568,sr,false,0,false,0,34952,bs⟩=xs at hfb hfp
 have hpo:=ref6_Ports m mg B
 have hpl:=ports_few mg B
 generalize portsOf m.links B=ps at hpo hpl
 have hpm:(ps.map intV1).length=ps.length:=by simp
 have hmt:(t.map mindsRow).length=t.length:=by simp
 have htl:=mgt.l
 generalize digestR b.region.ways=dg at hdg hby hsm hwh hdl
 repeat' (first|refine qU ?_|refine qW ?_|((first|apply dX rfl|apply Da rfl rfl|apply Db rfl rfl qN);(focus ((try intro hg);first|exact S_call top_alive rfl|exact S_call hp rfl|exact S_ixM rfl rfl (by omega) hb|exact S_call hdg rfl|exact qMo));constructor)|refine qP ?_)
 refine DW_loop (fun q:Nat×List Tale=>⟨[(3,.dat false (.int .i64 B)),(9,.ptr 9 0),(12,.ptr 12 0),(54,.dat true (.slice (t.map mindsRow))),(55,.dat true (.int .i64 (t.map mindsRow).length)),(56,.dat true (.int .i64 q.1))],[(9,.cells false true (m.cells.map (.dat true))),(12,.cells false true [.dat true (.slice (dg.map byteV)),.own 900 0 0 q.2.length]),(900,.row 0 false true 6 (q.2.map Tale.cells))],143⟩)
  (fun q=>q.1≤t.length∧q.2=(talesOf t B).take q.1) (fun q=>t.length-q.1) (0,[]) ⟨Nat.zero_le _,rfl⟩
  (Wk_g (fun g=>if g=900 then none else some g) rfl rfl kq) (fun q hR=>?_)
 obtain⟨k,us⟩:=q
 obtain⟨hk,hus⟩:=hR
 simp only at hk hus
 dsimp only
 have htal:(talesOf t B).length=t.length:=by unfold talesOf;simp
 have hul:us.length=k:=by rw[hus,List.length_take];omega
 by_cases hlt:k<t.length
 ·have hx:t[(k:Int).toNat]? = some t[k]:=by simp[hlt]
  have hl:=(mgt.m t[k] (List.getElem_mem hlt)).1
  have hst:(talesOf t B).take (k+1)=us++[taleOf k (mAt t[k] B)]:=by
   have:(talesOf t B)[k]? = some (taleOf k (mAt t[k] B)):=by unfold talesOf;simp[hlt]
   rw[List.take_add_one,this,hus];rfl
  generalize t[k]=u at hx hl hst
  have hy:u[(B:Int).toNat]? = some (mAt u B):=by rw[Int.toNat_natCast];exact mAt_get (by omega)
  generalize mAt u B=d at hst hy
  repeat' (first|refine qU ?_|refine qW ?_|((first|apply dX rfl|apply Da rfl rfl|apply Db rfl rfl qN);(focus ((try intro hg);first|exact S_ixM rfl rfl (by omega) hx|exact S_ixM rfl rfl (by omega) hy|exact S_appM (f:=Tale.cells) (us:=us) (bs := [taleOf k d]) rfl rfl (.dat _ _) rfl rfl (.inl rfl) rfl (by simp only[List.length_singleton];omega)|exact qMo));constructor)|refine qP ?_)
  exact loop_again (k+1,us++[taleOf k d]) ⟨hlt,hst.symm⟩ (by simp only;omega) (Wk_g some rfl rfl kqp)
 ·have he:us=talesOf t B:=by rw[hus,List.take_of_length_le (by omega)]
  subst he
  have hsx:IntKind.u64.andNotI b.addr 1099511627776=sr:=hsr.symm
  repeat' (first|refine qU ?_|refine qW ?_|((first|apply dX rfl|apply Da rfl rfl|apply Db rfl rfl qN);(focus ((try intro hg);first|exact S_call hby rfl|exact S_call hpa rfl|exact S_call hsm rfl|exact S_ixM rfl rfl (by omega) hb|exact as_int (S_andNot rfl rfl) hsx|exact S_call hfb rfl|exact S_call hfp rfl|exact S_call hrw rfl|exact S_call hpo rfl|exact S_bytes_str (l:=bs) Tryz.underlying5 Tryz.underlying9 rfl|exact as_bool (S_eqls rfl rfl) (decide_eq_true rfl)|exact qMo));constructor)|refine qP ?_)
  refine ret1 rfl qF ?_
  rfl
end Go.Proofs.YtcdhlofhhcgohaaGreat
