/- Roles of ports, and how a net must stand on a tree: what is said of them. -/
import Derived.Test.YtcdhlofhhcgohaaGreatxcMd5
import Derived.Test.YtcdhlofhhcgohaaGreatxdRgd
import Derived.Test.YtcdhlofhhcgohaaGreatxbFam
import Derived.Test.YtcdhlofhhcgohaaGreatxbNst
namespace Go.Proofs.YtcdhlofhhcgohaaGreat
open Go.RowKit
attribute [local irreducible] SStep DW DWin DOps thenQ inBlk loopQ retQ retQG FnF FnG Wk IntKind.wrap IntKind.andI IntKind.orI IntKind.xorI IntKind.andNotI IntKind.shlI IntKind.shrI macS digestR
theorem region_IdentG (r:Region) (hr:r.right):FnG Tryz.prog 98 [.dat false r.v] [] (.own 1000 0 0 (identR r).length) [(1000,.row 0 false true 1 ((identR r).map byteV))]:=by
 refine fnG_of Tryz.func98 rfl rfl rfl ?_
 simp only[envD]
 have hD:=region_Digest r hr
 have hdl:=digestR_len r.ways
 have n2:=hr.n2
 obtain⟨b1,_,b2,_⟩:=byte_hi hr.r0
 have hcp:r.name.take 32++(List.replicate 32 0).drop r.name.length=r.name++List.replicate (32-r.name.length) 0:=by
  rw[List.take_of_length_le n2,List.drop_replicate]
 repeat' (first|(apply dt rfl;case h=>exact S_mkM (f:=byteV) (l:=32) (c:=50) (0:UInt8) _ rfl rfl rfl rfl (by decide) (by decide) rfl rfl)|refine qU ?_|((first|apply dX rfl|apply Da rfl rfl|apply Db rfl rfl qN);(focus ((try intro hg);first|exact S_copyS (us:=List.replicate 32 0) (bs:=r.name) rfl rfl rfl rfl|exact C_toInt rfl b1|exact C_toInt rfl b2|exact S_shr rfl rfl (by decide)|exact S_call hD rfl|exact S_appM (f:=byteV) (us:=r.name.take 32++(List.replicate 32 0).drop r.name.length) (bs := [byteAt r.rev 1,byteAt r.rev 0]) rfl rfl (.dat _ _) rfl (by rw[hcp];simp;omega) (.inr ⟨rfl,inferInstance⟩) rfl (by rw[hcp];simp;omega)|exact S_appM (f:=byteV) (bs:=digestR r.ways) rfl rfl (.dat _ _) rfl rfl (.inr ⟨rfl,inferInstance⟩) rfl (by rw[hcp];simp;omega)|exact qM));constructor)|refine qP ?_)
 rw[hcp]
 exact gOwn (Wk_g (fun g=>if g=1000 then some 4 else none) rfl rfl kq)
theorem region_Ident (r:Region) (hr:r.right):FnF Tryz.prog 98 [r.v] (.slice ((identR r).map byteV)) :=
 fnF_own (ds := [r.v]) (region_IdentG r hr) (by rw[List.length_map])
set_option maxHeartbeats 1000000 in
theorem ref3_IdentG (r:Region) (hr:r.right):FnG Tryz.prog 27 [.dat false r.v] [] (.own 1000 0 0 (identR r).length) [(1000,.row 0 false true 1 ((identR r).map byteV))]:=by
 refine fnG_of Tryz.func27 rfl rfl rfl ?_
 simp only[envD]
 have hD:=ref3_Digest r hr
 have hdl:=digestR_len r.ways
 have n2:=hr.n2
 have r0:=hr.r0
 have r1:=hr.r1
 obtain⟨_,b1,_,b2⟩:=byte_hi hr.r0
 have hq:IntKind.i64.wrap (r.rev.tdiv 256)=r.rev / 256:=by rw[Int.tdiv_eq_ediv_of_nonneg r0,wrap_in];simp only[InK];omega
 have hm:r.rev.tmod 256=r.rev % 256:=Int.tmod_eq_emod_of_nonneg r0
 repeat' (first|(apply dt rfl;case h=>exact S_str_bytesO (l:=r.name) _ Tryz.underlying5 Tryz.underlying9 rfl (by omega) rfl)|refine qU ?_|((first|apply dX rfl|apply Da rfl rfl|apply Db rfl rfl qN);(focus ((try intro hg);first|exact qM));constructor)|refine qP ?_)
 refine DW_loop (fun p:Nat×List UInt8=>⟨[(1,.ptr 1 0),(3,.own 6 0 0 p.2.length)],[(1,.cells false true (r.cells.map (.dat false))),(6,.row 0 false true 1 (p.2.map byteV))],28⟩)
  (fun p=>p.1≤32-r.name.length∧p.2=r.name++List.replicate p.1 0) (fun p=>32-p.1) (0,r.name) ⟨Nat.zero_le _,by simp⟩
  (Wk_g some rfl rfl kq) (fun p hR=>?_)
 obtain⟨z,m⟩:=p
 obtain⟨hz,hm'⟩:=hR
 simp only at hz hm'
 dsimp only
 have hml:m.length=r.name.length+z:=by rw[hm'];simp
 by_cases hlt:m.length<32
 ·repeat' (first|refine qU ?_|((first|apply dX rfl|apply Da rfl rfl|apply Db rfl rfl qN);(focus ((try intro hg);first|exact as_bool (S_lss rfl rfl) (decide_eq_true (by omega:(m.length:Int)<32))|exact S_appM (f:=byteV) (us:=m) (bs := [0]) rfl rfl (.dat _ _) rfl rfl (.inr ⟨rfl,inferInstance⟩) rfl (by simp only[List.length_cons,List.length_nil];omega)|exact qM));constructor)|refine qP ?_)
  refine loop_again (z+1,m++[0]) ⟨by simp only;omega,?_⟩ (by simp only;omega) (Wk_g some rfl rfl kq)
  simp only
  rw[hm',List.replicate_succ',←List.append_assoc]
 ·have hze:z=32-r.name.length:=by omega
  subst hze
  have hid:identR r=m++[byteAt r.rev 1,byteAt r.rev 0]++digestR r.ways:=by unfold identR;rw[hm']
  rw[hid]
  repeat' (first|refine qU ?_|((first|apply dX rfl|apply Da rfl rfl|apply Db rfl rfl qN);(focus ((try intro hg);first|exact as_bool (S_lss rfl rfl) (decide_eq_false (by omega:¬(m.length:Int)<32))|exact as_int (S_quo rfl rfl (by decide)) hq|exact as_int (S_rem rfl rfl (by decide)) hm|exact C_toInt rfl b1|exact C_toInt rfl b2|exact S_call hD rfl|exact S_appM (f:=byteV) (us:=m) (bs := [byteAt r.rev 1,byteAt r.rev 0]) rfl rfl (.dat _ _) rfl rfl (.inr ⟨rfl,inferInstance⟩) rfl (by simp only[List.length_cons,List.length_nil];omega)|exact S_appM (f:=byteV) (us:=m++[byteAt r.rev 1,byteAt r.rev 0]) (bs:=digestR r.ways) rfl rfl (.dat _ _) rfl rfl (.inr ⟨rfl,inferInstance⟩) rfl (by simp only[List.length_append,List.length_cons,List.length_nil];omega)|exact qM));constructor)|refine qP ?_)
  exact gOwn (Wk_g (fun g=>if g=1000 then some 6 else none) rfl rfl kq)
theorem ref3_Ident (r:Region) (hr:r.right):FnF Tryz.prog 27 [r.v] (.slice ((identR r).map byteV)) :=
 fnF_own (ds := [r.v]) (ref3_IdentG r hr) (by rw[List.length_map])
end Go.Proofs.YtcdhlofhhcgohaaGreat
namespace Go.Proofs.YtcdhlofhhcgohaaGreat
open Go.RowKit
structure Bridge.ok (b:Bridge):Prop where
 a0:0≤b.addr
 a1:b.addr≤281474976710655
 n:b.prios.length≤16
 p:∀ p∈b.prios,¬prioBad p
 r:b.region.right
def Bridge.prio (b:Bridge) (t:Int):Int:=if 0≤t then(b.prios[t.toNat]?).getD 32768 else 32768
def Bridge.id (b:Bridge) (t:Int):Int:=b.prio t*281474976710656+b.addr
theorem Bridge.prio_in {b:Bridge} (h:b.ok) (t:Int):0≤b.prio t∧b.prio t≤61440:=by
 unfold Bridge.prio
 split
 ·cases hx:b.prios[t.toNat]? with
  | none=>simp
  | some p =>
   have:=h.p p (List.mem_of_getElem? hx)
   unfold prioBad at this
   rw[Option.getD_some];omega
 ·omega
theorem Bridge.id_in {b:Bridge} (h:b.ok) (t:Int):0≤b.id t∧b.id t≤18446744073709551615:=by
 have:=Bridge.prio_in h t
 have:=h.a0
 have:=h.a1
 unfold Bridge.id;omega
theorem shl_48 {a:Int} (h:0≤a) (h2:a≤61440):IntKind.u64.shlI a 48=a*281474976710656:=by
 unfold IntKind.shlI
 have e:(2:Int) ^ (min (48:Int).toNat IntKind.u64.bits)=281474976710656:=by decide
 rw[e,wrap_u64];omega
theorem or_48 {p v:Int} (h:0≤p) (h2:p≤61440) (k:0≤v) (k2:v≤281474976710655):IntKind.u64.orI (p*281474976710656) v=p*281474976710656+v:=by
 unfold IntKind.orI
 have hb:IntKind.u64.bits=64:=rfl
 rw[hb]
 have e1:(BitVec.ofInt 64 (p*281474976710656)).toNat=(p*281474976710656).toNat:=by
  rw[BitVec.toNat_ofInt];omega
 have e2:(BitVec.ofInt 64 v).toNat=v.toNat:=by
  rw[BitVec.toNat_ofInt];omega
 rw[BitVec.toNat_or,e1,e2]
 have e:(p*281474976710656).toNat=p.toNat <<< 48:=by rw[Nat.shiftLeft_eq];omega
 rw[e,←Nat.shiftLeft_add_eq_or_of_lt (by omega:v.toNat<2 ^ 48),Nat.shiftLeft_eq,wrap_u64]
 omega
structure End where
 port:Int
 cost:Int
 other:Int
 oport:Int
def endV (e:End):List V := [.int .i64 e.port,.int .i64 e.cost,.int .i64 e.other,.int .i64 e.oport]
instance : CellsI endV 4:=⟨fun _=>rfl,fun t d h=>by
 simp only[endV,List.mem_cons,List.mem_nil_iff,or_false]at h
 rcases h with rfl|rfl|rfl|rfl<;>rfl⟩
instance : FlatI endV:=⟨fun t d h=>by
 simp only[endV,List.mem_cons,List.mem_nil_iff,or_false]at h
 rcases h with rfl|rfl|rfl|rfl<;>exact .int _ _⟩
instance : CellsI Offer.cells 7:=⟨fun _=>rfl,fun t d h=>by
 simp only[Offer.cells,List.mem_cons,List.mem_nil_iff,or_false]at h
 rcases h with rfl|rfl|rfl|rfl|rfl|rfl|rfl<;>rfl⟩
instance : FlatI Offer.cells:=⟨fun t d h=>by
 simp only[Offer.cells,List.mem_cons,List.mem_nil_iff,or_false]at h
 rcases h with rfl|rfl|rfl|rfl|rfl|rfl|rfl<;>exact .int _ _⟩
def offerOf (says:List Vec) (e:End):Offer:=⟨e.port,e.cost,0,{ (says[e.other.toNat]?).getD .zero with port:=e.oport }⟩
def offersOf (ends:List End) (says:List Vec):List Offer:=ends.map (offerOf says)
def idsR (bs:List Bridge):List (List UInt8):=bs.map fun b=>identR b.region
def bytesR (x:List UInt8):List V := [.slice (x.map byteV)]
instance : CellsI bytesR 1:=⟨fun _=>rfl,fun t d h=>by
 simp only[bytesR,List.mem_cons,List.mem_nil_iff,or_false]at h
 subst h;rfl⟩
def endAt (i:Int) (l:Link):List End:=(if l.a=i then [⟨l.pa,l.cost,l.b,l.pb⟩]else [])++(if l.b=i then [⟨l.pb,l.cost,l.a,l.pa⟩]else [])
def portAt (i:Int) (l:Link):List Int:=(if l.a=i then [l.pa]else [])++(if l.b=i then [l.pb]else [])
def portsOf (ls:List Link) (i:Int):List Int:=(ls.flatMap (portAt i)).mergeSort fun x y=>decide (x≤y)
end Go.Proofs.YtcdhlofhhcgohaaGreat
namespace Go.Proofs.YtcdhlofhhcgohaaGreat
open Go.RowKit
attribute [local irreducible] SStep DW DWin DOps thenQ inBlk loopQ retQ retQG FnF FnG Wk IntKind.wrap IntKind.andI IntKind.orI IntKind.xorI IntKind.andNotI IntKind.shlI IntKind.shrI Region.wrong Bridge.wrong Link.wrong Bridge.prio identR
theorem prio_at {b:Bridge} {t:Nat} {p:Int} (h:b.prios[t]? = some p):b.prio (t:Int)=p:=by
 unfold Bridge.prio;rw[if_pos (by omega),Int.toNat_natCast,h];rfl
theorem prio_no {b:Bridge} {t:Int} (h:t<0∨b.prios.length≤t):b.prio t=32768:=by
 unfold Bridge.prio
 split
 ·rw[List.getElem?_eq_none (by omega)];rfl
 ·rfl
set_option maxHeartbeats 1000000 in
theorem plan_Ident (b:Bridge) (hb:b.ok) (t:Int):FnF Tryz.prog 34 [.agg (bridgeV b),.int .i64 t] (.int .u64 (b.id t)):=by
 refine fnF_of Tryz.func34 rfl rfl rfl ?_
 simp only[envOf]
 have hml:(b.prios.map intV1).length=b.prios.length:=by simp
 obtain⟨p0,p1⟩:=Bridge.prio_in hb t
 by_cases h0:0≤t
 ·obtain⟨t,rfl⟩:∃ k:Nat,t=(k:Int):=⟨t.toNat,by omega⟩
  by_cases h1:t<b.prios.length
  ·have hx:b.prios[((t:Nat):Int).toNat]? = some b.prios[t]:=by simp[h1]
   have hp:=prio_at (b:=b) (t:=t) hx
   rw[←hp]at hx
   have e1:=shl_48 p0 p1
   have e2:=or_48 p0 p1 hb.a0 hb.a1
   unfold Bridge.id
   generalize b.prio (t:Int)=p at hx p0 p1 e1 e2
   repeat' (first|refine qU ?_|((first|apply dX rfl|apply Da rfl rfl|apply Db rfl rfl qN);(focus ((try intro hg);first|exact as_bool (S_geq rfl rfl) (decide_eq_true (by omega:(0:Int)≤(t:Int)))|exact as_bool (S_lss rfl rfl) (decide_eq_true (by omega:(t:Int)<((b.prios.map intV1).length:Int)))|exact S_ixM rfl rfl (by omega) hx|exact I_toInt rfl (by simp only[InK];omega)|exact as_int (S_shl rfl rfl (by decide)) e1|exact as_int (S_or rfl rfl) e2|exact qM));constructor)|refine qP ?_)
   refine ret1 rfl (.inl rfl) ?_
   rfl
  ·have hp:=prio_no (b:=b) (t:=(t:Int)) (by omega)
   rw[hp]at p0 p1
   have e1:=shl_48 p0 p1
   have e2:=or_48 p0 p1 hb.a0 hb.a1
   unfold Bridge.id
   rw[hp]
   repeat' (first|refine qU ?_|((first|apply dX rfl|apply Da rfl rfl|apply Db rfl rfl qN);(focus ((try intro hg);first|exact as_bool (S_geq rfl rfl) (decide_eq_true (by omega:(0:Int)≤(t:Int)))|exact as_bool (S_lss rfl rfl) (decide_eq_false (by omega:¬(t:Int)<((b.prios.map intV1).length:Int)))|exact I_toInt rfl (by simp only[InK];omega)|exact as_int (S_shl rfl rfl (by decide)) e1|exact as_int (S_or rfl rfl) e2|exact qM));constructor)|refine qP ?_)
   refine ret1 rfl (.inl rfl) ?_
   rfl
 ·have hp:=prio_no (b:=b) (t:=t) (by omega)
  rw[hp]at p0 p1
  have e1:=shl_48 p0 p1
  have e2:=or_48 p0 p1 hb.a0 hb.a1
  unfold Bridge.id
  rw[hp]
  repeat' (first|refine qU ?_|((first|apply dX rfl|apply Da rfl rfl|apply Db rfl rfl qN);(focus ((try intro hg);first|exact as_bool (S_geq rfl rfl) (decide_eq_false h0)|exact I_toInt rfl (by simp only[InK];omega)|exact as_int (S_shl rfl rfl (by decide)) e1|exact as_int (S_or rfl rfl) e2|exact qM));constructor)|refine qP ?_)
  refine ret1 rfl (.inl rfl) ?_
  rfl
set_option maxHeartbeats 1000000 in
theorem plan_Regions (n:Net) (hb:∀ b∈n.bridges,b.region.right) (hl:n.bridges.length≤12):FnF Tryz.prog 53 [.rp n.cells] (.slice ((idsR n.bridges).map bytesR)):=by
 refine fnF_of Tryz.func53 rfl rfl rfl ?_
 simp only[envOf]
 have hml:(n.bridges.map bridgeV).length=n.bridges.length:=by simp
 repeat' (first|refine qU ?_|((first|apply dX rfl|apply Da rfl rfl|apply Db rfl rfl qN);(focus ((try intro hg);first|exact qM));constructor)|refine qP ?_)
 refine DW_loop (fun p:Nat×List (List UInt8)=>⟨[(3,.own 3 0 0 p.2.length),(9,.dat false (.slice (n.bridges.map bridgeV))),(10,.dat true (.int .i64 (n.bridges.map bridgeV).length)),(11,.dat true (.int .i64 p.1))],[(3,.row 0 false true 1 (p.2.map bytesR))],23⟩)
  (fun p=>p.1≤n.bridges.length∧p.2=(idsR n.bridges).take p.1) (fun p=>n.bridges.length-p.1) (0,[]) ⟨Nat.zero_le _,rfl⟩
  (Wk_g (fun g=>if g=3 then none else some g) rfl rfl kq) (fun p hR=>?_)
 obtain⟨k,us⟩:=p
 obtain⟨hk,hus⟩:=hR
 simp only at hk hus
 dsimp only
 have hul:us.length=k:=by rw[hus];simp[idsR];omega
 by_cases hlt:k<n.bridges.length
 ·have hx:n.bridges[(k:Int).toNat]? = some n.bridges[k]:=by simp[hlt]
  have hr:=hb n.bridges[k] (List.getElem_mem hlt)
  have hnext:us++[identR n.bridges[k].region]=(idsR n.bridges).take (k+1):=by
   rw[hus,List.take_add_one];simp[idsR,hlt]
  generalize n.bridges[k]=b at hx hr hnext
  have hi:=region_Ident b.region hr
  repeat' (first|refine qU ?_|((first|apply dX rfl|apply Da rfl rfl|apply Db rfl rfl qN);(focus ((try intro hg);first|exact as_bool (S_lss rfl rfl) (decide_eq_true (by omega:(k:Int)<((n.bridges.map bridgeV).length:Int)))|exact S_ixM rfl rfl (by omega) hx|exact S_call hi rfl|exact S_appM (f:=bytesR) (us:=us) (bs := [identR b.region]) rfl rfl (.dat _ _) rfl rfl (.inl rfl) rfl (by simp only[List.length_singleton];omega)|exact qM));constructor)|refine qP ?_)
  exact loop_again (k+1,us++[identR b.region]) ⟨hlt,hnext⟩ (by simp only;omega) (Wk_g some rfl rfl kq)
 ·have he:us=idsR n.bridges:=by rw[hus];exact List.take_of_length_le (by simp[idsR];omega)
  refine DW_seal 3 rfl rfl (by simp) ?_
  repeat' (first|refine qU ?_|((first|apply dX rfl|apply Da rfl rfl|apply Db rfl rfl qN);(focus ((try intro hg);first|exact as_bool (S_lss rfl rfl) (decide_eq_false (by omega:¬(k:Int)<((n.bridges.map bridgeV).length:Int)))|exact qM));constructor)|refine qP ?_)
  refine ret1 rfl (.inl rfl) ?_
  rw[←he]
end Go.Proofs.YtcdhlofhhcgohaaGreat
namespace Go.Proofs.YtcdhlofhhcgohaaGreat
open Go.RowKit
def liveB (bs:List Bridge) (l:Link):Bool:=l.up && decide ((idsR bs)[l.a.toNat]? = (idsR bs)[l.b.toNat]?)
def liveL (n:Net):List Link:=n.links.filter (liveB n.bridges)
def rawE (ls:List Link) (i:Nat):List End:=ls.flatMap (endAt i)
def famX (nb:Nat) (ls:List Link):List (List End):=(List.range nb).map (rawE ls)
def sortE (r:List End):List End:=r.mergeSort fun x y=>decide (x.port≤y.port)
def endsOf (n:Net) (i:Nat):List End:=sortE (rawE (liveL n) i)
structure Link.ok (nb:Nat) (l:Link):Prop where
 a0:0≤l.a
 a1:l.a<nb
 b0:0≤l.b
 b1:l.b<nb
 ne:l.a≠l.b
 pa:1≤l.pa∧l.pa≤30
 pb:1≤l.pb∧l.pb≤30
 c:1≤l.cost∧l.cost≤200000
theorem famX_len (nb:Nat) (ls:List Link):(famX nb ls).length=nb:=by simp[famX]
theorem famX_get {nb:Nat} {ls:List Link} {i:Nat} (h:i<nb):(famX nb ls)[i]? = some (rawE ls i):=by simp[famX,h]
theorem famX_nil (nb:Nat):famX nb []=List.replicate nb []:=by
 apply List.ext_getElem?
 intro i
 by_cases h:i<nb
 ·rw[famX_get h,List.getElem?_replicate,if_pos h];rfl
 ·rw[List.getElem?_eq_none (by rw[famX_len];omega),List.getElem?_eq_none (by rw[List.length_replicate];omega)]
theorem rawE_app (ls:List Link) (l:Link) (i:Nat):rawE (ls++[l]) i=rawE ls i++endAt i l:=by
 unfold rawE;rw[List.flatMap_append];simp
theorem famX_step {nb:Nat} {ls:List Link} {l:Link} (h:l.ok nb) :
  ((famX nb ls).set l.a.toNat (rawE ls l.a.toNat++[⟨l.pa,l.cost,l.b,l.pb⟩])).set l.b.toNat (rawE ls l.b.toNat++[⟨l.pb,l.cost,l.a,l.pa⟩])=famX nb (ls++[l]):=by
 obtain⟨a0,a1,b0,b1,ne,_,_,_⟩:=h
 apply List.ext_getElem?
 intro i
 by_cases hi:i<nb
 ·rw [famX_get hi,rawE_app]
  by_cases hb:i=l.b.toNat
  ·subst hb
   rw[List.getElem?_set_self (by rw[List.length_set,famX_len];exact hi)]
   unfold endAt
   rw[if_neg (by omega),if_pos (by omega)];rfl
  ·rw[List.getElem?_set_ne (Ne.symm hb)]
   by_cases ha:i=l.a.toNat
   ·subst ha
    rw[List.getElem?_set_self (by rw[famX_len];exact hi)]
    unfold endAt
    rw[if_pos (by omega),if_neg (by omega)];rfl
   ·rw[List.getElem?_set_ne (Ne.symm ha),famX_get hi]
    unfold endAt
    rw[if_neg (by omega),if_neg (by omega)];simp
 ·rw[List.getElem?_eq_none (by rw[List.length_set,List.length_set,famX_len];omega),List.getElem?_eq_none (by rw[famX_len];omega)]
theorem live_take {bs:List Bridge} {ls:List Link} {k:Nat} {l:Link} (h:ls[k]? = some l):(ls.take (k+1)).filter (liveB bs)=(ls.take k).filter (liveB bs)++if liveB bs l then [l]else []:=by
 rw[List.take_add_one,h,List.filter_append]
 congr 1
 by_cases hl:liveB bs l=true
 ·rw[if_pos hl];simp[hl]
 ·rw[if_neg hl];simp[hl]
def srtX (xs:List (List End)) (j:Nat):List (List End):=(xs.take j).map sortE++xs.drop j
theorem srtX_zero (xs:List (List End)):srtX xs 0=xs:=by simp[srtX]
theorem srtX_len (xs:List (List End)) (j:Nat):(srtX xs j).length=xs.length:=by simp[srtX];omega
theorem srtX_at {xs:List (List End)} {j:Nat} {r:List End} (h:xs[j]? = some r):(srtX xs j)[j]? = some r:=by
 have hj:=(List.getElem?_eq_some_iff.1 h).1
 unfold srtX
 rw[List.getElem?_append_right (by simp;omega)]
 simp only[List.length_map,List.length_take,Nat.min_eq_left (Nat.le_of_lt hj),Nat.sub_self,List.getElem?_drop,Nat.add_zero]
 exact h
theorem srtX_set {xs:List (List End)} {j:Nat} {r:List End} (h:xs[j]? = some r):(srtX xs j).set j (sortE r)=srtX xs (j+1):=by
 have hj:=(List.getElem?_eq_some_iff.1 h).1
 have hl:((xs.take j).map sortE).length=j:=by simp;omega
 unfold srtX
 rw[List.set_append_right _ _ (by omega),hl,Nat.sub_self,List.drop_eq_getElem_cons hj,List.set_cons_zero,List.take_add_one,h,List.map_append,List.append_assoc]
 rfl
theorem srtX_all (xs:List (List End)):srtX xs xs.length=xs.map sortE:=by simp[srtX]
theorem sortE_len (r:List End):(sortE r).length=r.length:=List.length_mergeSort r
theorem ends_all (n:Net):(famX n.bridges.length (liveL n)).map sortE=(List.range n.bridges.length).map (endsOf n):=by
 unfold famX;rw[List.map_map];rfl
theorem rawE_le (ls:List Link) (i:Nat):(rawE ls i).length≤2*ls.length:=by
 unfold rawE
 induction ls with
 | nil=>simp
 | cons l r ih =>
  rw[List.flatMap_cons,List.length_append,List.length_cons]
  have:(endAt (i:Int) l).length≤2:=by
   unfold endAt
   split<;>split<;>simp
  omega
theorem live_le (n:Net) (k:Nat):((n.links.take k).filter (liveB n.bridges)).length≤n.links.length :=
 Nat.le_trans (List.length_filter_le _ _) (by simp;omega)
def endsRow (r:List End):List V := [.slice (r.map endV)]
instance : CellsI endsRow 1:=⟨fun _=>rfl,fun t d h=>by
 simp only[endsRow,List.mem_cons,List.mem_nil_iff,or_false]at h
 subst h;rfl⟩
end Go.Proofs.YtcdhlofhhcgohaaGreat
namespace Go.Proofs.YtcdhlofhhcgohaaGreat
open Go.RowKit
def sortI (r:List Int):List Int:=r.mergeSort fun x y=>decide (x≤y)
def rawP (ls:List Link) (i:Int):List Int:=ls.flatMap (portAt i)
theorem portsOf_eq (ls:List Link) (i:Int):portsOf ls i=sortI (rawP ls i):=rfl
theorem rawP_len (ls:List Link) (i:Int):(rawP ls i).length≤2*ls.length:=by
 unfold rawP
 induction ls with
 | nil=>simp
 | cons l r ih =>
  rw[List.flatMap_cons,List.length_append,List.length_cons]
  have:(portAt i l).length≤2:=by
   unfold portAt
   split<;>split<;>simp
  omega
theorem rawP_step {ls:List Link} {i:Int} {k:Nat} {l:Link} (h:ls[k]? = some l):rawP (ls.take (k+1)) i=rawP (ls.take k) i++portAt i l:=by
 unfold rawP
 rw[List.take_add_one,h,List.flatMap_append];simp
theorem rawP_nil (ls:List Link) (i:Int):rawP (ls.take 0) i=[]:=rfl
def rolesP (ends:List End) (says:Vec) (root:Int) (l:List Offer) (ps:List Int):List Int:=ps.map fun p=>if ends.any (fun e=>decide (e.port=p))then roleOf says root p l else 0
theorem rolesP_len (ends:List End) (says:Vec) (root:Int) (l:List Offer) (ps:List Int):(rolesP ends says root l ps).length=ps.length:=by simp[rolesP]
structure Place where
 vec:Vec
 rootPort:Int
 ports:List Int
 roles:List Int
def nextS (n:Net) (tree:Int) (says:List Vec) (i:Nat):Ch:=match n.bridges[i]? with
 | some b=>chooseS (b.id tree) (offersOf (endsOf n i) says)
 | none=>.start 0
def saysOf (n:Net) (tree:Int) (says:List Vec) (i:Nat):Vec:=(nextS n tree says i).says (((n.bridges[i]?).map (·.id tree)).getD 0)
def round1 (n:Net) (tree:Int) (says:List Vec):List Vec:=(List.range n.bridges.length).map (saysOf n tree says)
def says0 (n:Net) (tree:Int):List Vec:=n.bridges.map fun b=>⟨b.id tree,0,b.id tree,0⟩
def saysN (n:Net) (tree:Int):Nat→List Vec
 | 0=>says0 n tree
 | t+1=>round1 n tree (saysN n tree t)
theorem saysN_len (n:Net) (tree:Int) (t:Nat):(saysN n tree t).length=n.bridges.length:=by
 cases t with
 | zero=>simp[saysN,says0]
 | succ t=>simp[saysN,round1]
def rootN (n:Net) (tree:Int):List Int:=(List.range n.bridges.length).map fun i=>(nextS n tree (saysN n tree n.bridges.length) i).port
def placeOf (n:Net) (tree:Int) (i:Nat):Place :=
 let says:=saysN n tree (n.bridges.length+1)
 let v:=(says[i]?).getD .zero
 let r:=((rootN n tree)[i]?).getD 0
 let ps:=portsOf n.links i
 ⟨v,r,ps,rolesP (endsOf n i) v r (offersOf (endsOf n i) says) ps⟩
def planF (n:Net) (tree:Int):List Place:=(List.range n.bridges.length).map (placeOf n tree)
end Go.Proofs.YtcdhlofhhcgohaaGreat
