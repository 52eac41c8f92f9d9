/- Contracts: Ident (plan's and the document's), Regions, offers. -/
import Derived.Test.YtcdhlofhhcgohaaGreatwcMd5
import Derived.Test.YtcdhlofhhcgohaaGreatwdRgd
namespace Go.Proofs.YtcdhlofhhcgohaaGreat
open Go.RowKit
attribute [local irreducible] SStep DW DWin DOps zaG zaE zaJ retQ zaN FnF FnG Wk IntKind.wrap IntKind.andI IntKind.orI IntKind.xorI IntKind.andNotI IntKind.shlI IntKind.shrI
set_option maxHeartbeats 2000000 in
theorem zh7 (r:Region) (hl:r.ways.length≤9223372036854775807):FnF Tryz.prog 91 [r.v] (.int .i64 r.wrong):=by
 refine zal Tryz.func91 rfl rfl rfl ?_
 simp only[zap]
 by_cases ha:r.name=[]
 ·repeat' (first|refine qU ?_|((first|apply dX rfl|apply Da rfl rfl|apply Db rfl rfl qN);(focus ((try intro hg);first|exact zab (zml rfl rfl) (decide_eq_true ha)|exact qM));constructor)|refine qP ?_)
  refine ret1 rfl (.inl rfl) ?_
  congr 1;unfold Region.wrong
  rw[if_pos (.inl (by rw[ha];decide))]
 have hal:¬r.name.length<1:=fun h=>ha (List.length_eq_zero_iff.1 (by omega))
 by_cases hb2:32<r.name.length
 ·repeat' (first|refine qU ?_|((first|apply dX rfl|apply Da rfl rfl|apply Db rfl rfl qN);(focus ((try intro hg);first|exact zab (zml rfl rfl) (decide_eq_false ha)|exact zab (zbr rfl rfl) (decide_eq_true (by omega:(32:Int)<(r.name.length:Int)))|exact qM));constructor)|refine qP ?_)
  refine ret1 rfl (.inl rfl) ?_
  congr 1;unfold Region.wrong
  rw[if_pos (.inr hb2)]
 have hnm:(r.name.map zak).length=r.name.length:=by simp
 repeat' (first|refine qU ?_|((first|apply dX rfl|apply Da rfl rfl|apply Db rfl rfl qN);(focus ((try intro hg);first|exact zab (zml rfl rfl) (decide_eq_false ha)|exact zab (zbr rfl rfl) (decide_eq_false (by omega:¬(32:Int)<(r.name.length:Int)))|exact zlq (l:=r.name) Tryz.underlying5 Tryz.underlying9 rfl (by omega)|exact qM));constructor)|refine qP ?_)
 refine zag (fun k:Nat=>⟨[(1,.ptr 1 0),(19,.dat true (.slice (r.name.map zak))),(20,.dat true (.int .i64 (r.name.map zak).length)),(21,.dat true (.int .i64 k))],[(1,.cells false true (r.cells.map (.dat false)))],72⟩)
  (fun k=>k≤r.name.length∧(r.name.take k).all okC=true) (fun k=>r.name.length-k) 0 ⟨Nat.zero_le _,rfl⟩
  (Wk_g some rfl rfl kq) (fun k hR=>?_)
 obtain⟨hk,hall⟩:=hR
 have hnn:¬(r.name.length<1∨32<r.name.length):=by omega
 by_cases hlt:k<r.name.length
 ·have hx:r.name[(k:Int).toNat]? = some r.name[k]:=by simp[hlt]
  have hx':r.name[k]? = some r.name[k]:=by simp[hlt]
  have hat:=zmw hx'
  generalize r.name[k]=c at hx hx' hat
  have hc:okC c=false↔((c.toNat:Int)<32∨(126:Int)<c.toNat):=by unfold okC;simp;omega
  repeat' (first|refine qU ?_|refine zat rfl (fun hb=>?_) (fun hb=>?_)|((first|apply dX rfl|apply Da rfl rfl|apply Db rfl rfl qN);(focus ((try intro hg);first|exact zab (zam rfl rfl) (decide_eq_true (by omega:(k:Int)<((r.name.map zak).length:Int)))|exact zaf (f:=zak) (us:=r.name) rfl rfl (by omega) hx|exact qM));constructor)|refine qP ?_)
  ·refine ret1 rfl (.inl rfl) ?_
   simp only[Bool.or_eq_true,decide_eq_true_eq]at hb
   congr 1;unfold Region.wrong
   rw[if_neg hnn,if_pos (zoG hx' (hc.2 hb))]
  ·simp only[Bool.or_eq_false_iff,decide_eq_false_iff_not]at hb
   refine zaa (k+1) ⟨hlt,?_⟩ (by omega) (Wk_g some rfl rfl kq)
   rw[hat,hall]
   cases ho:okC c with
   | true=>rfl
   | false=>have:=hc.1 ho;omega
 ·rw [List.take_of_length_le (by omega)]at hall
  have hall':¬r.name.all okC=false:=by rw[hall];simp
  have hend:decide ((k:Int)<((r.name.map zak).length:Int))=false:=decide_eq_false (by omega)
  by_cases h0:r.rev<0
  ·repeat' (first|refine qU ?_|((first|apply dX rfl|apply Da rfl rfl|apply Db rfl rfl qN);(focus ((try intro hg);first|exact zab (zam rfl rfl) hend|exact zab (zam rfl rfl) (decide_eq_true h0)|exact qM));constructor)|refine qP ?_)
   refine ret1 rfl (.inl rfl) ?_
   congr 1;unfold Region.wrong
   rw[if_neg hnn,if_neg hall',if_pos (.inl h0)]
  by_cases h6:65535<r.rev
  ·repeat' (first|refine qU ?_|((first|apply dX rfl|apply Da rfl rfl|apply Db rfl rfl qN);(focus ((try intro hg);first|exact zab (zam rfl rfl) hend|exact zab (zam rfl rfl) (decide_eq_false h0)|exact zab (zbr rfl rfl) (decide_eq_true h6)|exact qM));constructor)|refine qP ?_)
   refine ret1 rfl (.inl rfl) ?_
   congr 1;unfold Region.wrong
   rw[if_neg hnn,if_neg hall',if_pos (.inr h6)]
  have hw0:r.wrong=zf8 0 r.ways:=by unfold Region.wrong;rw[if_neg hnn,if_neg hall',if_neg (by omega)]
  rw[hw0]
  have hml:(r.ways.map wayV).length=r.ways.length:=by simp
  repeat' (first|refine qU ?_|((first|apply dX rfl|apply Da rfl rfl|apply Db rfl rfl qN);(focus ((try intro hg);first|exact zab (zam rfl rfl) hend|exact zab (zam rfl rfl) (decide_eq_false h0)|exact zab (zbr rfl rfl) (decide_eq_false h6)|exact qM));constructor)|refine qP ?_)
  refine zag (fun p:Nat×Int=>⟨[(1,.ptr 1 0),(5,.dat true (.int .i64 p.2)),(41,.dat false (.slice (r.ways.map wayV))),(42,.dat true (.int .i64 (r.ways.map wayV).length)),(43,.dat true (.int .i64 p.1))],[(1,.cells false true (r.cells.map (.dat false)))],72⟩)
   (fun p=>p.1≤r.ways.length∧zf8 0 r.ways=zf8 p.2 (r.ways.drop p.1)) (fun p=>r.ways.length-p.1) (0,0) ⟨Nat.zero_le _,rfl⟩
   (Wk_g some rfl rfl kq) (fun p hR=>?_)
  obtain⟨k,last⟩:=p
  obtain⟨hk,hw⟩:=hR
  simp only at hk hw
  dsimp only
  by_cases hlt:k<r.ways.length
  ·have hx:r.ways[(k:Int).toNat]? = some r.ways[k]:=by simp[hlt]
   have hn:r.ways.drop k=r.ways[k]::r.ways.drop (k+1):=List.drop_eq_getElem_cons hlt
   generalize r.ways[k]=t at hx hn
   rw[hn,zf8]at hw
   repeat' (first|refine qU ?_|refine zat rfl (fun hb=>?_) (fun hb=>?_)|((first|apply dX rfl|apply Da rfl rfl|apply Db rfl rfl qN);(focus ((try intro hg);first|exact zab (zam rfl rfl) (decide_eq_true (by omega:(k:Int)<((r.ways.map wayV).length:Int)))|exact zaf rfl rfl (by omega) hx|exact qM));constructor)|refine qP ?_)
   ·refine ret1 rfl (.inl rfl) ?_
    simp only[Bool.or_eq_true,decide_eq_true_eq]at hb
    rw[hw,if_pos (by unfold Way.bad;omega)]
   ·rename_i hb1
    simp only[Bool.or_eq_false_iff,decide_eq_true_eq,decide_eq_false_iff_not]at hb hb1
    refine ret1 rfl (.inl rfl) ?_
    rw[hw,if_neg (by unfold Way.bad;omega),if_pos (by omega)]
   ·rename_i hb1
    simp only[Bool.or_eq_false_iff,decide_eq_false_iff_not]at hb hb1
    refine zaa (k+1,t.vid) ⟨hlt,?_⟩ (by simp only;omega) (Wk_g some rfl rfl kq)
    simp only
    rw[hw,if_neg (by unfold Way.bad;omega),if_neg (by omega)]
  ·repeat' (first|refine qU ?_|((first|apply dX rfl|apply Da rfl rfl|apply Db rfl rfl qN);(focus ((try intro hg);first|exact zab (zam rfl rfl) (decide_eq_false (by omega:¬(k:Int)<((r.ways.map wayV).length:Int)))|exact qM));constructor)|refine qP ?_)
   refine ret1 rfl (.inl rfl) ?_
   rw[hw,List.drop_eq_nil_of_le (by omega)]
   rfl
end Go.Proofs.YtcdhlofhhcgohaaGreat
namespace Go.Proofs.YtcdhlofhhcgohaaGreat
open Go.RowKit
attribute [local irreducible] SStep DW DWin DOps zaG zaE zaJ retQ zaN FnF FnG Wk IntKind.wrap IntKind.andI IntKind.orI IntKind.xorI IntKind.andNotI IntKind.shlI IntKind.shrI macS zdm
theorem zi8 (r:Region) (hr:r.right):FnG Tryz.prog 98 [.dat false r.v] [] (.own 1000 0 0 (zb3 r).length) [(1000,.row 0 false true 1 ((zb3 r).map zak))]:=by
 refine zbj Tryz.func98 rfl rfl rfl ?_
 simp only[envD]
 have hD:=zi7 r hr
 have hdl:=zgV r.ways
 have n2:=hr.n2
 obtain⟨b1,_,b2,_⟩:=zi6 hr.r0
 have hcp:r.name.take 32++(List.replicate 32 0).drop r.name.length=r.name++List.replicate (32-r.name.length) 0:=by
  rw[List.take_of_length_le n2,List.drop_replicate]
 repeat' (first|(apply dt rfl;case h=>exact ziX (f:=zak) (l:=32) (c:=50) (0:UInt8) _ rfl rfl rfl rfl (by decide) (by decide) rfl rfl)|refine qU ?_|((first|apply dX rfl|apply Da rfl rfl|apply Db rfl rfl qN);(focus ((try intro hg);first|exact zsP (us:=List.replicate 32 0) (bs:=r.name) rfl rfl rfl rfl|exact zaH rfl b1|exact zaH rfl b2|exact zeD rfl rfl (by decide)|exact zac hD rfl|exact zan (f:=zak) (us:=r.name.take 32++(List.replicate 32 0).drop r.name.length) (bs := [zay r.rev 1,zay r.rev 0]) rfl rfl (.dat _ _) rfl (by rw[hcp];simp;omega) (.inr ⟨rfl,inferInstance⟩) rfl (by rw[hcp];simp;omega)|exact zan (f:=zak) (bs:=zdm r.ways) rfl rfl (.dat _ _) rfl rfl (.inr ⟨rfl,inferInstance⟩) rfl (by rw[hcp];simp;omega)|exact qM));constructor)|refine qP ?_)
 rw[hcp]
 exact gOwn (Wk_g (fun g=>if g=1000 then some 4 else none) rfl rfl kq)
theorem zkp (r:Region) (hr:r.right):FnF Tryz.prog 98 [r.v] (.slice ((zb3 r).map zak)) :=
 zdV (ds := [r.v]) (zi8 r hr) (by rw[List.length_map])
set_option maxHeartbeats 1000000 in
theorem zlz (r:Region) (hr:r.right):FnG Tryz.prog 27 [.dat false r.v] [] (.own 1000 0 0 (zb3 r).length) [(1000,.row 0 false true 1 ((zb3 r).map zak))]:=by
 refine zbj Tryz.func27 rfl rfl rfl ?_
 simp only[envD]
 have hD:=zly r hr
 have hdl:=zgV r.ways
 have n2:=hr.n2
 have r0:=hr.r0
 have r1:=hr.r1
 obtain⟨_,b1,_,b2⟩:=zi6 hr.r0
 have hq:IntKind.i64.wrap (r.rev.tdiv 256)=r.rev / 256:=by rw[Int.tdiv_eq_ediv_of_nonneg r0,wrap_in];simp only[InK];omega
 have hm:r.rev.tmod 256=r.rev % 256:=Int.tmod_eq_emod_of_nonneg r0
 repeat' (first|(apply dt rfl;case h=>exact zkb (l:=r.name) _ Tryz.underlying5 Tryz.underlying9 rfl (by omega) rfl)|refine qU ?_|((first|apply dX rfl|apply Da rfl rfl|apply Db rfl rfl qN);(focus ((try intro hg);first|exact qM));constructor)|refine qP ?_)
 refine zag (fun p:Nat×List UInt8=>⟨[(1,.ptr 1 0),(3,.own 6 0 0 p.2.length)],[(1,.cells false true (r.cells.map (.dat false))),(6,.row 0 false true 1 (p.2.map zak))],28⟩)
  (fun p=>p.1≤32-r.name.length∧p.2=r.name++List.replicate p.1 0) (fun p=>32-p.1) (0,r.name) ⟨Nat.zero_le _,by simp⟩
  (Wk_g some rfl rfl kq) (fun p hR=>?_)
 obtain⟨z,m⟩:=p
 obtain⟨hz,hm'⟩:=hR
 simp only at hz hm'
 dsimp only
 have hml:m.length=r.name.length+z:=by rw[hm'];simp
 by_cases hlt:m.length<32
 ·repeat' (first|refine qU ?_|((first|apply dX rfl|apply Da rfl rfl|apply Db rfl rfl qN);(focus ((try intro hg);first|exact zab (zam rfl rfl) (decide_eq_true (by omega:(m.length:Int)<32))|exact zan (f:=zak) (us:=m) (bs := [0]) rfl rfl (.dat _ _) rfl rfl (.inr ⟨rfl,inferInstance⟩) rfl (by simp only[List.length_cons,List.length_nil];omega)|exact qM));constructor)|refine qP ?_)
  refine zaa (z+1,m++[0]) ⟨by simp only;omega,?_⟩ (by simp only;omega) (Wk_g some rfl rfl kq)
  simp only
  rw[hm',List.replicate_succ',←List.append_assoc]
 ·have hze:z=32-r.name.length:=by omega
  subst hze
  have hid:zb3 r=m++[zay r.rev 1,zay r.rev 0]++zdm r.ways:=by unfold zb3;rw[hm']
  rw[hid]
  repeat' (first|refine qU ?_|((first|apply dX rfl|apply Da rfl rfl|apply Db rfl rfl qN);(focus ((try intro hg);first|exact zab (zam rfl rfl) (decide_eq_false (by omega:¬(m.length:Int)<32))|exact zaw (ziG rfl rfl (by decide)) hq|exact zaw (zcw rfl rfl (by decide)) hm|exact zaH rfl b1|exact zaH rfl b2|exact zac hD rfl|exact zan (f:=zak) (us:=m) (bs := [zay r.rev 1,zay r.rev 0]) rfl rfl (.dat _ _) rfl rfl (.inr ⟨rfl,inferInstance⟩) rfl (by simp only[List.length_cons,List.length_nil];omega)|exact zan (f:=zak) (us:=m++[zay r.rev 1,zay r.rev 0]) (bs:=zdm r.ways) rfl rfl (.dat _ _) rfl rfl (.inr ⟨rfl,inferInstance⟩) rfl (by simp only[List.length_append,List.length_cons,List.length_nil];omega)|exact qM));constructor)|refine qP ?_)
  exact gOwn (Wk_g (fun g=>if g=1000 then some 6 else none) rfl rfl kq)
theorem znm (r:Region) (hr:r.right):FnF Tryz.prog 27 [r.v] (.slice ((zb3 r).map zak)) :=
 zdV (ds := [r.v]) (zlz r hr) (by rw[List.length_map])
end Go.Proofs.YtcdhlofhhcgohaaGreat
namespace Go.Proofs.YtcdhlofhhcgohaaGreat
open Go.RowKit
structure Bridge.ok (b:Bridge):Prop where
 a0:0≤b.addr
 a1:b.addr≤281474976710655
 n:b.prios.length≤16
 p:∀ p∈b.prios,¬zbh p
 r:b.region.right
def Bridge.prio (b:Bridge) (t:Int):Int:=if 0≤t then(b.prios[t.toNat]?).getD 32768 else 32768
def Bridge.id (b:Bridge) (t:Int):Int:=b.prio t*281474976710656+b.addr
theorem Bridge.prio_in {b:Bridge} (h:b.ok) (t:Int):0≤b.prio t∧b.prio t≤61440:=by
 unfold Bridge.prio
 split
 ·cases hx:b.prios[t.toNat]? with
  | none=>simp
  | some p =>
   have:=h.p p (List.mem_of_getElem? hx)
   unfold zbh at this
   rw[Option.getD_some];omega
 ·omega
theorem zoV {a:Int} (h:0≤a) (h2:a≤61440):IntKind.u64.shlI a 48=a*281474976710656:=by
 unfold IntKind.shlI
 have e:(2:Int) ^ (min (48:Int).toNat IntKind.u64.bits)=281474976710656:=by decide
 rw[e,wrap_u64];omega
theorem zsQ {p v:Int} (h:0≤p) (h2:p≤61440) (k:0≤v) (k2:v≤281474976710655):IntKind.u64.orI (p*281474976710656) v=p*281474976710656+v:=by
 unfold IntKind.orI
 have hb:IntKind.u64.bits=64:=rfl
 rw[hb]
 have e1:(BitVec.ofInt 64 (p*281474976710656)).toNat=(p*281474976710656).toNat:=by
  rw[BitVec.toNat_ofInt];omega
 have e2:(BitVec.ofInt 64 v).toNat=v.toNat:=by
  rw[BitVec.toNat_ofInt];omega
 rw[BitVec.toNat_or,e1,e2]
 have e:(p*281474976710656).toNat=p.toNat <<< 48:=by rw[Nat.shiftLeft_eq];omega
 rw[e,←Nat.shiftLeft_add_eq_or_of_lt (by omega:v.toNat<2 ^ 48),Nat.shiftLeft_eq,wrap_u64]
 omega
structure End where
 port:Int
 cost:Int
 other:Int
 oport:Int
def endV (e:End):List V := [.int .i64 e.port,.int .i64 e.cost,.int .i64 e.other,.int .i64 e.oport]
instance : CellsI endV 4:=⟨fun _=>rfl,fun t d h=>by
 simp only[endV,List.mem_cons,List.mem_nil_iff,or_false]at h
 rcases h with rfl|rfl|rfl|rfl<;>rfl⟩
instance : FlatI endV:=⟨fun t d h=>by
 simp only[endV,List.mem_cons,List.mem_nil_iff,or_false]at h
 rcases h with rfl|rfl|rfl|rfl<;>exact .int _ _⟩
instance : CellsI Offer.cells 7:=⟨fun _=>rfl,fun t d h=>by
 simp only[Offer.cells,List.mem_cons,List.mem_nil_iff,or_false]at h
 rcases h with rfl|rfl|rfl|rfl|rfl|rfl|rfl<;>rfl⟩
instance : FlatI Offer.cells:=⟨fun t d h=>by
 simp only[Offer.cells,List.mem_cons,List.mem_nil_iff,or_false]at h
 rcases h with rfl|rfl|rfl|rfl|rfl|rfl|rfl<;>exact .int _ _⟩
instance : CellsI Vec.cells 4:=⟨fun _=>rfl,fun t d h=>by
 simp only[Vec.cells,List.mem_cons,List.mem_nil_iff,or_false]at h
 rcases h with rfl|rfl|rfl|rfl<;>rfl⟩
instance : FlatI Vec.cells:=⟨fun t d h=>by
 simp only[Vec.cells,List.mem_cons,List.mem_nil_iff,or_false]at h
 rcases h with rfl|rfl|rfl|rfl<;>exact .int _ _⟩
def idsR (bs:List Bridge):List (List UInt8):=bs.map fun b=>zb3 b.region
def zbe (x:List UInt8):List V := [.slice (x.map zak)]
instance : CellsI zbe 1:=⟨fun _=>rfl,fun t d h=>by
 simp only[zbe,List.mem_cons,List.mem_nil_iff,or_false]at h
 subst h;rfl⟩
def zfz (i:Int) (l:Link):List End:=(if l.a=i then [⟨l.pa,l.cost,l.b,l.pb⟩]else [])++(if l.b=i then [⟨l.pb,l.cost,l.a,l.pa⟩]else [])
def zd1 (i:Int) (l:Link):List Int:=(if l.a=i then [l.pa]else [])++(if l.b=i then [l.pb]else [])
def zah (ls:List Link) (i:Int):List Int:=(ls.flatMap (zd1 i)).mergeSort fun x y=>decide (x≤y)
end Go.Proofs.YtcdhlofhhcgohaaGreat
namespace Go.Proofs.YtcdhlofhhcgohaaGreat
open Go.RowKit
attribute [local irreducible] SStep DW DWin DOps zaG zaE zaJ retQ zaN FnF FnG Wk IntKind.wrap IntKind.andI IntKind.orI IntKind.xorI IntKind.andNotI IntKind.shlI IntKind.shrI Region.wrong Bridge.wrong Link.wrong Bridge.prio zb3
theorem zoW {b:Bridge} {t:Nat} {p:Int} (h:b.prios[t]? = some p):b.prio (t:Int)=p:=by
 unfold Bridge.prio;rw[if_pos (by omega),Int.toNat_natCast,h];rfl
theorem zlA {b:Bridge} {t:Int} (h:t<0∨b.prios.length≤t):b.prio t=32768:=by
 unfold Bridge.prio
 split
 ·rw[List.getElem?_eq_none (by omega)];rfl
 ·rfl
set_option maxHeartbeats 1000000 in
theorem zh8 (b:Bridge) (hb:b.ok) (t:Int):FnF Tryz.prog 34 [.agg (zaj b),.int .i64 t] (.int .u64 (b.id t)):=by
 refine zal Tryz.func34 rfl rfl rfl ?_
 simp only[zap]
 have hml:(b.prios.map zad).length=b.prios.length:=by simp
 obtain⟨p0,p1⟩:=Bridge.prio_in hb t
 by_cases h0:0≤t
 ·obtain⟨t,rfl⟩:∃ k:Nat,t=(k:Int):=⟨t.toNat,by omega⟩
  by_cases h1:t<b.prios.length
  ·have hx:b.prios[((t:Nat):Int).toNat]? = some b.prios[t]:=by simp[h1]
   have hp:=zoW (b:=b) (t:=t) hx
   rw[←hp]at hx
   have e1:=zoV p0 p1
   have e2:=zsQ p0 p1 hb.a0 hb.a1
   unfold Bridge.id
   generalize b.prio (t:Int)=p at hx p0 p1 e1 e2
   repeat' (first|refine qU ?_|((first|apply dX rfl|apply Da rfl rfl|apply Db rfl rfl qN);(focus ((try intro hg);first|exact zab (zm5 rfl rfl) (decide_eq_true (by omega:(0:Int)≤(t:Int)))|exact zab (zam rfl rfl) (decide_eq_true (by omega:(t:Int)<((b.prios.map zad).length:Int)))|exact zaf rfl rfl (by omega) hx|exact ziS rfl (by simp only[InK];omega)|exact zaw (ziH rfl rfl (by decide)) e1|exact zaw (S_or rfl rfl) e2|exact qM));constructor)|refine qP ?_)
   refine ret1 rfl (.inl rfl) ?_
   rfl
  ·have hp:=zlA (b:=b) (t:=(t:Int)) (by omega)
   rw[hp]at p0 p1
   have e1:=zoV p0 p1
   have e2:=zsQ p0 p1 hb.a0 hb.a1
   unfold Bridge.id
   rw[hp]
   repeat' (first|refine qU ?_|((first|apply dX rfl|apply Da rfl rfl|apply Db rfl rfl qN);(focus ((try intro hg);first|exact zab (zm5 rfl rfl) (decide_eq_true (by omega:(0:Int)≤(t:Int)))|exact zab (zam rfl rfl) (decide_eq_false (by omega:¬(t:Int)<((b.prios.map zad).length:Int)))|exact ziS rfl (by simp only[InK];omega)|exact zaw (ziH rfl rfl (by decide)) e1|exact zaw (S_or rfl rfl) e2|exact qM));constructor)|refine qP ?_)
   refine ret1 rfl (.inl rfl) ?_
   rfl
 ·have hp:=zlA (b:=b) (t:=t) (by omega)
  rw[hp]at p0 p1
  have e1:=zoV p0 p1
  have e2:=zsQ p0 p1 hb.a0 hb.a1
  unfold Bridge.id
  rw[hp]
  repeat' (first|refine qU ?_|((first|apply dX rfl|apply Da rfl rfl|apply Db rfl rfl qN);(focus ((try intro hg);first|exact zab (zm5 rfl rfl) (decide_eq_false h0)|exact ziS rfl (by simp only[InK];omega)|exact zaw (ziH rfl rfl (by decide)) e1|exact zaw (S_or rfl rfl) e2|exact qM));constructor)|refine qP ?_)
  refine ret1 rfl (.inl rfl) ?_
  rfl
set_option maxHeartbeats 1000000 in
theorem zh9 (b:Bridge) (hb:b.ok) (t:Nat):FnF Tryz.prog 48 [.agg (zaj b),.int .i64 t] (.int .u64 (b.id t)):=by
 refine zal Tryz.func48 rfl rfl rfl ?_
 simp only[zap]
 have hml:(b.prios.map zad).length=b.prios.length:=by simp
 obtain⟨p0,p1⟩:=Bridge.prio_in hb t
 have a0:=hb.a0
 have a1:=hb.a1
 have w1:∀ p:Int,0≤p→p≤61440→IntKind.u64.wrap (p*281474976710656)=p*281474976710656:=fun p h1 h2=>wrap_in (by simp only[InK];omega)
 have w2:∀ p:Int,0≤p→p≤61440→IntKind.u64.wrap (p*281474976710656+b.addr)=p*281474976710656+b.addr:=fun p h1 h2=>wrap_in (by simp only[InK];omega)
 by_cases h1:t<b.prios.length
 ·have hx:b.prios[((t:Nat):Int).toNat]? = some b.prios[t]:=by simp[h1]
  have hp:=zoW (b:=b) (t:=t) hx
  rw[←hp]at hx
  unfold Bridge.id
  generalize b.prio (t:Int)=p at hx p0 p1
  repeat' (first|refine qU ?_|((first|apply dX rfl|apply Da rfl rfl|apply Db rfl rfl qN);(focus ((try intro hg);first|exact zab (zam rfl rfl) (decide_eq_true (by omega:(t:Int)<((b.prios.map zad).length:Int)))|exact zaf rfl rfl (by omega) hx|exact ziS rfl (by simp only[InK];omega)|exact zaw (zqt rfl rfl) (w1 p p0 p1)|exact zaw (zn8 rfl rfl) (w2 p p0 p1)|exact qM));constructor)|refine qP ?_)
  refine ret1 rfl (.inl rfl) ?_
  rfl
 ·have hp:=zlA (b:=b) (t:=(t:Int)) (by omega)
  unfold Bridge.id
  rw[hp]
  repeat' (first|refine qU ?_|((first|apply dX rfl|apply Da rfl rfl|apply Db rfl rfl qN);(focus ((try intro hg);first|exact zab (zam rfl rfl) (decide_eq_false (by omega:¬(t:Int)<((b.prios.map zad).length:Int)))|exact zaw (zqt rfl rfl) (w1 32768 (by omega) (by omega))|exact zaw (zn8 rfl rfl) (w2 32768 (by omega) (by omega))|exact qM));constructor)|refine qP ?_)
  refine ret1 rfl (.inl rfl) ?_
  rfl
set_option maxHeartbeats 1000000 in
theorem zfX (n:Net) (hb:∀ b∈n.bridges,b.region.right) (hl:n.bridges.length≤12):FnF Tryz.prog 53 [.rp n.cells] (.slice ((idsR n.bridges).map zbe)):=by
 refine zal Tryz.func53 rfl rfl rfl ?_
 simp only[zap]
 have hml:(n.bridges.map zaj).length=n.bridges.length:=by simp
 repeat' (first|refine qU ?_|((first|apply dX rfl|apply Da rfl rfl|apply Db rfl rfl qN);(focus ((try intro hg);first|exact qM));constructor)|refine qP ?_)
 refine zag (fun p:Nat×List (List UInt8)=>⟨[(3,.own 3 0 0 p.2.length),(9,.dat false (.slice (n.bridges.map zaj))),(10,.dat true (.int .i64 (n.bridges.map zaj).length)),(11,.dat true (.int .i64 p.1))],[(3,.row 0 false true 1 (p.2.map zbe))],23⟩)
  (fun p=>p.1≤n.bridges.length∧p.2=(idsR n.bridges).take p.1) (fun p=>n.bridges.length-p.1) (0,[]) ⟨Nat.zero_le _,rfl⟩
  (Wk_g (fun g=>if g=3 then none else some g) rfl rfl kq) (fun p hR=>?_)
 obtain⟨k,us⟩:=p
 obtain⟨hk,hus⟩:=hR
 simp only at hk hus
 dsimp only
 have hul:us.length=k:=by rw[hus];simp[idsR];omega
 by_cases hlt:k<n.bridges.length
 ·have hx:n.bridges[(k:Int).toNat]? = some n.bridges[k]:=by simp[hlt]
  have hr:=hb n.bridges[k] (List.getElem_mem hlt)
  have hnext:us++[zb3 n.bridges[k].region]=(idsR n.bridges).take (k+1):=by
   rw[hus,List.take_add_one];simp[idsR,hlt]
  generalize n.bridges[k]=b at hx hr hnext
  have hi:=zkp b.region hr
  repeat' (first|refine qU ?_|((first|apply dX rfl|apply Da rfl rfl|apply Db rfl rfl qN);(focus ((try intro hg);first|exact zab (zam rfl rfl) (decide_eq_true (by omega:(k:Int)<((n.bridges.map zaj).length:Int)))|exact zaf rfl rfl (by omega) hx|exact zac hi rfl|exact zan (f:=zbe) (us:=us) (bs := [zb3 b.region]) rfl rfl (.dat _ _) rfl rfl (.inl rfl) rfl (by simp only[List.length_singleton];omega)|exact qM));constructor)|refine qP ?_)
  exact zaa (k+1,us++[zb3 b.region]) ⟨hlt,hnext⟩ (by simp only;omega) (Wk_g some rfl rfl kq)
 ·have he:us=idsR n.bridges:=by rw[hus];exact List.take_of_length_le (by simp[idsR];omega)
  refine zaR 3 rfl rfl (by simp) ?_
  repeat' (first|refine qU ?_|((first|apply dX rfl|apply Da rfl rfl|apply Db rfl rfl qN);(focus ((try intro hg);first|exact zab (zam rfl rfl) (decide_eq_false (by omega:¬(k:Int)<((n.bridges.map zaj).length:Int)))|exact qM));constructor)|refine qP ?_)
  refine ret1 rfl (.inl rfl) ?_
  rw[←he]
end Go.Proofs.YtcdhlofhhcgohaaGreat
