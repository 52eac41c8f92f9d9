/- Contracts: digests and identities of regions. -/
import Derived.Test.YtcdhlofhhcgohaaGreatwdMac
import Derived.Test.YtcdhlofhhcgohaaGreatwcRgW
import Derived.Test.YtcdhlofhhcgohaaGreatwcMd5
namespace Go.Proofs.YtcdhlofhhcgohaaGreat
open Go.RowKit
theorem zmC (b:List UInt8) (hb:b.length≤4194304):FnF Tryz.prog 128 [.slice (b.map zak)] (.slice ((md5S b).map zak)) :=
 zdV (ds := [.slice (b.map zak)]) (zoQ b hb) (by rw[List.length_map,zdC])
theorem zkl (b:List UInt8) (hb:b.length≤4194304):FnF Tryz.prog 149 [.slice (b.map zak)] (.slice ((md5S b).map zak)) :=
 zdV (ds := [.slice (b.map zak)]) (zmB b hb) (by rw[List.length_map,zdC])
attribute [local irreducible] SStep DW DWin DOps zaG zaE zaJ retQ zaN FnF FnG Wk IntKind.wrap IntKind.andI IntKind.orI IntKind.xorI IntKind.andNotI IntKind.shlI IntKind.shrI md5S padK
set_option maxHeartbeats 2000000 in
theorem zsO (key b:List UInt8) (hk:key.length≤4194304) (hb:b.length≤2097152):FnG Tryz.prog 77 [.dat false (.slice (key.map zak)),.dat false (.slice (b.map zak))] [] (.own 1000 0 0 16) [(1000,.row 0 false true 1 ((macS key b).map zak))]:=by
 refine zbj Tryz.func77 rfl rfl rfl ?_
 simp only[envD]
 have hkl:=zoS key
 have hp92:=zoT (macK key) hkl 92
 have hp54:=zoT (macK key) hkl 54
 have hl92:=zfb hkl 92
 have hl54:=zfb hkl 54
 have hdl:=zdC (padK (macK key) 54++b)
 have e1:=zbp (f:=zak) (us:=padK (macK key) 54++b) rfl
 have e2:=zbp (f:=zak) (us:=padK (macK key) 92++md5S (padK (macK key) 54++b)) rfl
 have hs1:FnF Tryz.prog 128 [.slice ((((padK (macK key) 54++b).map zak).drop 0).take (padK (macK key) 54++b).length)] (.slice ((md5S (padK (macK key) 54++b)).map zak)):=by
  rw[e1];exact zmC _ (by rw[List.length_append];omega)
 have hs2:FnG Tryz.prog 128 [.dat false (.slice ((((padK (macK key) 92++md5S (padK (macK key) 54++b)).map zak).drop 0).take (padK (macK key) 92++md5S (padK (macK key) 54++b)).length))] [] (.own 1000 0 0 16) [(1000,.row 0 false true 1 ((macS key b).map zak))]:=by
  rw[e2];exact zoQ _ (by rw[List.length_append];omega)
 have hml:(key.map zak).length=key.length:=by simp
 by_cases h64:64<key.length
 ·have hK:macK key=md5S key:=by unfold macK;rw[if_pos h64]
  have hgt:decide ((64:Int)<((key.map zak).length:Int))=true:=decide_eq_true (by omega)
  have hsk:=zmC key hk
  rw[←hK]at hsk
  repeat' (first|refine zaD 2 (by intro kt et es h;cases (show Box.cells false _ [D.dat true _]=Box.mapb _ _ _ from h)) ?_|refine qU ?_|(apply dt rfl;case h=>first|exact zcx _ rfl hp92 rfl rfl (.own _ _)|exact zcx _ rfl hp54 rfl rfl (.own _ _)|exact zcI 13 rfl rfl (zaB 20 hs2 rfl rfl (.own _ _)))|((first|apply dX rfl|apply Da rfl rfl|apply Db rfl rfl qN);(focus ((try intro hg);first|exact zcx _ rfl hp92 rfl rfl (.own _ _)|exact zcx _ rfl hp54 rfl rfl (.own _ _)|exact zan (f:=zak) (us:=padK (macK key) 54) (bs:=b) rfl rfl (.dat _ _) rfl hl54.symm (.inr ⟨rfl,inferInstance⟩) rfl (by omega)|exact zcI 15 rfl rfl (zac hs1 rfl)|exact zan (f:=zak) (us:=padK (macK key) 92) (bs:=md5S (padK (macK key) 54++b)) rfl rfl (.dat _ _) rfl hl92.symm (.inr ⟨rfl,inferInstance⟩) rfl (by omega)|exact zcI 13 rfl rfl (zaB 20 hs2 rfl rfl (.own _ _))|exact zab (zbr rfl rfl) hgt|exact zac hsk rfl|exact qM));constructor)|refine qP ?_)
  exact gOwn (Wk_g (fun g=>if g=1000 then some 20 else none) rfl rfl kq)
 ·have hK:macK key=key:=by unfold macK;rw[if_neg h64]
  have hgt:decide ((64:Int)<((key.map zak).length:Int))=false:=decide_eq_false (by omega)
  rw[hK]at hp92 hp54
  rw[hK]at hl92 hl54 hdl e1 e2 hs1 hs2
  repeat' (first|refine zaD 2 (by intro kt et es h;cases (show Box.cells false _ [D.dat false _]=Box.mapb _ _ _ from h)) ?_|refine qU ?_|(apply dt rfl;case h=>first|exact zcx _ rfl hp92 rfl rfl (.own _ _)|exact zcx _ rfl hp54 rfl rfl (.own _ _)|exact zcI 13 rfl rfl (zaB 20 hs2 rfl rfl (.own _ _)))|((first|apply dX rfl|apply Da rfl rfl|apply Db rfl rfl qN);(focus ((try intro hg);first|exact zcx _ rfl hp92 rfl rfl (.own _ _)|exact zcx _ rfl hp54 rfl rfl (.own _ _)|exact zan (f:=zak) (us:=padK key 54) (bs:=b) rfl rfl (.dat _ _) rfl hl54.symm (.inr ⟨rfl,inferInstance⟩) rfl (by omega)|exact zcI 15 rfl rfl (zac hs1 rfl)|exact zan (f:=zak) (us:=padK key 92) (bs:=md5S (padK key 54++b)) rfl rfl (.dat _ _) rfl hl92.symm (.inr ⟨rfl,inferInstance⟩) rfl (by omega)|exact zcI 13 rfl rfl (zaB 20 hs2 rfl rfl (.own _ _))|exact zab (zbr rfl rfl) hgt|exact qM));constructor)|refine qP ?_)
  exact gOwn (Wk_g (fun g=>if g=1000 then some 20 else none) rfl rfl kq)
theorem zi5 {key:List UInt8} (h:key.length≤64) (w:UInt8) {i:Nat} (hi:i<64):(padK key w).take (i+1)=(padK key w).take i++[((key[i]?).getD 0) ^^^ w]:=by
 have hl:=zfb h w
 have hg:(padK key w)[i]? = some (((key[i]?).getD 0) ^^^ w):=by
  unfold padK zlw
  rw[List.getElem?_map,List.getElem?_append]
  split
  ·rename_i h1
   rw[List.getElem?_eq_getElem h1];rfl
  ·rename_i h1
   rw[List.getElem?_replicate,if_pos (by omega),List.getElem?_eq_none (by omega)];rfl
 rw[List.take_add_one,hg];rfl
set_option maxHeartbeats 2000000 in
theorem zqV (key b:List UInt8) (hk:key.length≤4194304) (hb:b.length≤2097152):FnG Tryz.prog 127 [.dat false (.slice (key.map zak)),.dat false (.slice (b.map zak))] [] (.own 1000 0 0 16) [(1000,.row 0 false true 1 ((macS key b).map zak))]:=by
 refine zbj Tryz.func127 rfl rfl rfl ?_
 simp only[envD]
 obtain⟨k,hK⟩:∃ k,macK key=k:=⟨_,rfl⟩
 have hkl:k.length≤64:=hK▸zoS key
 have hl92:=zfb hkl 92
 have hl54:=zfb hkl 54
 have hdl:=zdC (padK k 54++b)
 have e1:=zbp (f:=zak) (us:=padK k 54++b) rfl
 have e2:=zbp (f:=zak) (us:=padK k 92++md5S (padK k 54++b)) rfl
 have hmac:macS key b=md5S (padK k 92++md5S (padK k 54++b)):=by unfold macS;rw[hK]
 have hs1:FnF Tryz.prog 149 [.slice ((((padK k 54++b).map zak).drop 0).take (padK k 54++b).length)] (.slice ((md5S (padK k 54++b)).map zak)):=by
  rw[e1];exact zkl _ (by rw[List.length_append];omega)
 have hs2:FnG Tryz.prog 149 [.dat false (.slice ((((padK k 92++md5S (padK k 54++b)).map zak).drop 0).take (padK k 92++md5S (padK k 54++b)).length))] [] (.own 1000 0 0 16) [(1000,.row 0 false true 1 ((macS key b).map zak))]:=by
  rw[e2,hmac];exact zmB _ (by rw[List.length_append];omega)
 have hml:(key.map zak).length=key.length:=by simp
 have hkm:(k.map zak).length=k.length:=by simp
 by_cases h64:64<key.length
 ·have hk':md5S key=k:=by rw[←hK];unfold macK;rw[if_pos h64]
  have hgt:decide ((64:Int)<((key.map zak).length:Int))=true:=decide_eq_true (by omega)
  have hsk:=zkl key hk
  rw[hk']at hsk
  repeat' (first|refine qU ?_|((first|apply dX rfl|apply Da rfl rfl|apply Db rfl rfl qN);(focus ((try intro hg);first|exact zab (zbr rfl rfl) hgt|exact zac hsk rfl|exact qM));constructor)|refine qP ?_)
  refine zag (fun p:Nat×List UInt8×List UInt8=>⟨[(0,.dat false (.slice (k.map zak))),(1,.dat false (.slice (b.map zak))),(5,.own 30 0 0 p.2.1.length),(6,.own 35 0 0 p.2.2.length),(7,.dat true (.int .i64 p.1))],[(30,.row 0 false true 1 (p.2.1.map zak)),(35,.row 0 false true 1 (p.2.2.map zak))],43⟩)
   (fun p=>p.1≤64∧p.2.1=(padK k 54).take p.1∧p.2.2=(padK k 92).take p.1) (fun p=>64-p.1) (0,[],[]) ⟨Nat.zero_le _,rfl,rfl⟩
   (Wk_g (fun g=>if g=30 then none else if g=35 then none else some g) rfl rfl kq) (fun p hR=>?_)
  obtain⟨i,xi,xo⟩:=p
  obtain⟨hi,hxi,hxo⟩:=hR
  simp only at hi hxi hxo
  dsimp only
  have hil:xi.length=i:=by rw[hxi,List.length_take];omega
  have hol:xo.length=i:=by rw[hxo,List.length_take];omega
  by_cases hlt:i<64
  ·have n54:=zi5 hkl 54 hlt
   have n92:=zi5 hkl 92 hlt
   by_cases hik:i<k.length
   ·have hx:k[(i:Int).toNat]? = some k[i]:=by simp[hik]
    have hg:(k[i]?).getD 0=k[i]:=by simp[hik]
    rw[hg]at n54 n92
    generalize k[i]=c at hx n54 n92
    have x54:IntKind.u8.xorI (c.toNat:Int) 54=((c ^^^ 54).toNat:Int):=zfc c 54
    have x92:IntKind.u8.xorI (c.toNat:Int) 92=((c ^^^ 92).toNat:Int):=zfc c 92
    repeat' (first|refine qU ?_|((first|apply dX rfl|apply Da rfl rfl|apply Db rfl rfl qN);(focus ((try intro hg);first|exact zab (zam rfl rfl) (decide_eq_true (by omega:(i:Int)<64))|exact zab (zam rfl rfl) (decide_eq_true (by omega:(i:Int)<((k.map zak).length:Int)))|exact zaf (f:=zak) rfl rfl (by omega) hx|exact zaw (zhK rfl rfl) x54|exact zaw (zhK rfl rfl) x92|exact zkj rfl rfl (.dat _ _) rfl (by omega)|exact qM));constructor)|refine qP ?_)
    refine zaa (i+1,xi++[c ^^^ 54],xo++[c ^^^ 92]) ⟨hlt,?_,?_⟩ (by simp only;omega) (Wk_g some rfl rfl kq)
    ·simp only;rw[n54,←hxi]
    ·simp only;rw[n92,←hxo]
   ·have hg:(k[i]?).getD 0=0:=by simp[hik]
    rw[hg]at n54 n92
    have x54:IntKind.u8.xorI 0 54=(((0:UInt8) ^^^ 54).toNat:Int):=zfc 0 54
    have x92:IntKind.u8.xorI 0 92=(((0:UInt8) ^^^ 92).toNat:Int):=zfc 0 92
    repeat' (first|refine qU ?_|((first|apply dX rfl|apply Da rfl rfl|apply Db rfl rfl qN);(focus ((try intro hg);first|exact zab (zam rfl rfl) (decide_eq_true (by omega:(i:Int)<64))|exact zab (zam rfl rfl) (decide_eq_false (by omega:¬(i:Int)<((k.map zak).length:Int)))|exact zaw (zhK rfl rfl) x54|exact zaw (zhK rfl rfl) x92|exact zkj rfl rfl (.dat _ _) rfl (by omega)|exact qM));constructor)|refine qP ?_)
    refine zaa (i+1,xi++[(0:UInt8) ^^^ 54],xo++[(0:UInt8) ^^^ 92]) ⟨hlt,?_,?_⟩ (by simp only;omega) (Wk_g some rfl rfl kq)
    ·simp only;rw[n54,←hxi]
    ·simp only;rw[n92,←hxo]
  ·have hi64:i=64:=by omega
   subst hi64
   rw[List.take_of_length_le (by omega)]at hxi hxo
   rw[←hxi]at hs1 hs2 hdl
   rw[←hxo]at hs2
   repeat' (first|refine qU ?_|(apply dt rfl;case h=>first|exact zcI 35 rfl rfl (zaB 42 hs2 rfl rfl (.own _ _)))|((first|apply dX rfl|apply Da rfl rfl|apply Db rfl rfl qN);(focus ((try intro hg);first|exact zab (zam rfl rfl) (decide_eq_false (by omega:¬((64:Nat):Int)<64))|exact zan (f:=zak) (us:=xi) (bs:=b) rfl rfl (.dat _ _) rfl rfl (.inr ⟨rfl,inferInstance⟩) rfl (by omega)|exact zcI 30 rfl rfl (zac hs1 rfl)|exact zan (f:=zak) (us:=xo) (bs:=md5S (xi++b)) rfl rfl (.dat _ _) rfl rfl (.inr ⟨rfl,inferInstance⟩) rfl (by omega)|exact zcI 35 rfl rfl (zaB 42 hs2 rfl rfl (.own _ _))|exact qM));constructor)|refine qP ?_)
   exact gOwn (Wk_g (fun g=>if g=1000 then some 42 else none) rfl rfl kq)
 ·have hk':key=k:=by rw[←hK];unfold macK;rw[if_neg h64]
  subst hk'
  have hgt:decide ((64:Int)<((key.map zak).length:Int))=false:=decide_eq_false (by omega)
  repeat' (first|refine qU ?_|((first|apply dX rfl|apply Da rfl rfl|apply Db rfl rfl qN);(focus ((try intro hg);first|exact zab (zbr rfl rfl) hgt|exact qM));constructor)|refine qP ?_)
  refine zag (fun p:Nat×List UInt8×List UInt8=>⟨[(0,.dat false (.slice (key.map zak))),(1,.dat false (.slice (b.map zak))),(5,.own 30 0 0 p.2.1.length),(6,.own 35 0 0 p.2.2.length),(7,.dat true (.int .i64 p.1))],[(30,.row 0 false true 1 (p.2.1.map zak)),(35,.row 0 false true 1 (p.2.2.map zak))],43⟩)
   (fun p=>p.1≤64∧p.2.1=(padK key 54).take p.1∧p.2.2=(padK key 92).take p.1) (fun p=>64-p.1) (0,[],[]) ⟨Nat.zero_le _,rfl,rfl⟩
   (Wk_g (fun g=>if g=30 then none else if g=35 then none else some g) rfl rfl kq) (fun p hR=>?_)
  obtain⟨i,xi,xo⟩:=p
  obtain⟨hi,hxi,hxo⟩:=hR
  simp only at hi hxi hxo
  dsimp only
  have hil:xi.length=i:=by rw[hxi,List.length_take];omega
  have hol:xo.length=i:=by rw[hxo,List.length_take];omega
  by_cases hlt:i<64
  ·have n54:=zi5 hkl 54 hlt
   have n92:=zi5 hkl 92 hlt
   by_cases hik:i<key.length
   ·have hx:key[(i:Int).toNat]? = some key[i]:=by simp[hik]
    have hg:(key[i]?).getD 0=key[i]:=by simp[hik]
    rw[hg]at n54 n92
    generalize key[i]=c at hx n54 n92
    have x54:IntKind.u8.xorI (c.toNat:Int) 54=((c ^^^ 54).toNat:Int):=zfc c 54
    have x92:IntKind.u8.xorI (c.toNat:Int) 92=((c ^^^ 92).toNat:Int):=zfc c 92
    repeat' (first|refine qU ?_|((first|apply dX rfl|apply Da rfl rfl|apply Db rfl rfl qN);(focus ((try intro hg);first|exact zab (zam rfl rfl) (decide_eq_true (by omega:(i:Int)<64))|exact zab (zam rfl rfl) (decide_eq_true (by omega:(i:Int)<((key.map zak).length:Int)))|exact zaf (f:=zak) rfl rfl (by omega) hx|exact zaw (zhK rfl rfl) x54|exact zaw (zhK rfl rfl) x92|exact zkj rfl rfl (.dat _ _) rfl (by omega)|exact qM));constructor)|refine qP ?_)
    refine zaa (i+1,xi++[c ^^^ 54],xo++[c ^^^ 92]) ⟨hlt,?_,?_⟩ (by simp only;omega) (Wk_g some rfl rfl kq)
    ·simp only;rw[n54,←hxi]
    ·simp only;rw[n92,←hxo]
   ·have hg:(key[i]?).getD 0=0:=by simp[hik]
    rw[hg]at n54 n92
    have x54:IntKind.u8.xorI 0 54=(((0:UInt8) ^^^ 54).toNat:Int):=zfc 0 54
    have x92:IntKind.u8.xorI 0 92=(((0:UInt8) ^^^ 92).toNat:Int):=zfc 0 92
    repeat' (first|refine qU ?_|((first|apply dX rfl|apply Da rfl rfl|apply Db rfl rfl qN);(focus ((try intro hg);first|exact zab (zam rfl rfl) (decide_eq_true (by omega:(i:Int)<64))|exact zab (zam rfl rfl) (decide_eq_false (by omega:¬(i:Int)<((key.map zak).length:Int)))|exact zaw (zhK rfl rfl) x54|exact zaw (zhK rfl rfl) x92|exact zkj rfl rfl (.dat _ _) rfl (by omega)|exact qM));constructor)|refine qP ?_)
    refine zaa (i+1,xi++[(0:UInt8) ^^^ 54],xo++[(0:UInt8) ^^^ 92]) ⟨hlt,?_,?_⟩ (by simp only;omega) (Wk_g some rfl rfl kq)
    ·simp only;rw[n54,←hxi]
    ·simp only;rw[n92,←hxo]
  ·have hi64:i=64:=by omega
   subst hi64
   rw[List.take_of_length_le (by omega)]at hxi hxo
   rw[←hxi]at hs1 hs2 hdl
   rw[←hxo]at hs2
   repeat' (first|refine qU ?_|(apply dt rfl;case h=>first|exact zcI 35 rfl rfl (zaB 42 hs2 rfl rfl (.own _ _)))|((first|apply dX rfl|apply Da rfl rfl|apply Db rfl rfl qN);(focus ((try intro hg);first|exact zab (zam rfl rfl) (decide_eq_false (by omega:¬((64:Nat):Int)<64))|exact zan (f:=zak) (us:=xi) (bs:=b) rfl rfl (.dat _ _) rfl rfl (.inr ⟨rfl,inferInstance⟩) rfl (by omega)|exact zcI 30 rfl rfl (zac hs1 rfl)|exact zan (f:=zak) (us:=xo) (bs:=md5S (xi++b)) rfl rfl (.dat _ _) rfl rfl (.inr ⟨rfl,inferInstance⟩) rfl (by omega)|exact zcI 35 rfl rfl (zaB 42 hs2 rfl rfl (.own _ _))|exact qM));constructor)|refine qP ?_)
   exact gOwn (Wk_g (fun g=>if g=1000 then some 42 else none) rfl rfl kq)
end Go.Proofs.YtcdhlofhhcgohaaGreat
namespace Go.Proofs.YtcdhlofhhcgohaaGreat
open Go.RowKit
def zex (ws:List Way):List UInt8:=ws.foldl (fun t w=>t.set w.vid.toNat (zay w.tree 0)) (List.replicate 4096 0)
def inter (l:List UInt8):List UInt8:=l.flatMap fun c=>[0,c]
theorem zgU (l:List UInt8):(inter l).length=2*l.length:=by
 induction l with
 | nil=>rfl
 | cons c r ih=>simp only[inter,List.flatMap_cons,List.length_append,List.length_cons,List.length_nil]at *;omega
theorem zkm : ∀ (l:List UInt8) (i:Nat) (c:UInt8),inter (l.set i c)=(inter l).set (2*i+1) c
 | [],i,c=>rfl
 | a::r,0,c=>rfl
 | a::r,i+1,c=>by
  have ih:=zkm r i c
  simp only[inter,List.set_cons_succ,List.flatMap_cons]at *
  rw[ih,show 2*(i+1)+1=(2*i+1)+1+1 by omega]
  rfl
theorem zh6 : ∀ n,inter (List.replicate n 0)=List.replicate (2*n) 0
 | 0=>rfl
 | n+1=>by
  have ih:=zh6 n
  rw[List.replicate_succ,show 2*(n+1)=2*n+1+1 by omega,List.replicate_succ,List.replicate_succ,←ih]
  rfl
def keyR : List UInt8 := [19,172,6,166,46,71,253,81,249,93,43,162,67,205,3,70]
def zdm (ws:List Way):List UInt8:=macS keyR (inter (zex ws))
def zb3 (r:Region):List UInt8:=r.name++List.replicate (32-r.name.length) 0++[zay r.rev 1,zay r.rev 0]++zdm r.ways
theorem zfd (ws:List Way):∀ t:List UInt8,(ws.foldl (fun t w=>t.set w.vid.toNat (zay w.tree 0)) t).length=t.length:=by
 induction ws with
 | nil=>intro t;rfl
 | cons w r ih=>intro t;rw[List.foldl_cons,ih,List.length_set]
theorem zfy (ws:List Way):(zex ws).length=4096:=by unfold zex;rw[zfd,List.length_replicate]
theorem zgV (ws:List Way):(zdm ws).length=16:=zdC _
end Go.Proofs.YtcdhlofhhcgohaaGreat
namespace Go.Proofs.YtcdhlofhhcgohaaGreat
open Go.RowKit
def tabK (ws:List Way) (k:Nat):List UInt8:=(ws.take k).foldl (fun t w=>t.set w.vid.toNat (zay w.tree 0)) (List.replicate 4096 0)
theorem zkn (ws:List Way):tabK ws 0=List.replicate 4096 0:=rfl
theorem zko {ws:List Way} {k:Nat} {w:Way} (h:ws[k]? = some w):tabK ws (k+1)=(tabK ws k).set w.vid.toNat (zay w.tree 0):=by
 unfold tabK
 rw[List.take_add_one,h,List.foldl_append];rfl
theorem zmD (ws:List Way) (k:Nat):(tabK ws k).length=4096:=by unfold tabK;rw[zfd,List.length_replicate]
theorem zmE (ws:List Way) {k:Nat} (h:ws.length≤k):tabK ws k=zex ws:=by unfold tabK zex;rw[List.take_of_length_le h]
theorem zni {l:List UInt8} {k:Nat} {c:UInt8} (h:l[k]? = some c):inter (l.take (k+1))=inter (l.take k)++[0,c]:=by
 rw[List.take_add_one,h]
 simp[inter]
theorem zmF (key b:List UInt8):(macS key b).length=16:=zdC _
theorem zi6 {x:Int} (h:0≤x):IntKind.u8.wrap (IntKind.i64.shrI x 8)=((zay x 1).toNat:Int)∧IntKind.u8.wrap (x / 256)=((zay x 1).toNat:Int)∧IntKind.u8.wrap x=((zay x 0).toNat:Int)∧IntKind.u8.wrap (x % 256)=((zay x 0).toNat:Int):=by
 have e:(2:Int) ^ (min (8:Int).toNat IntKind.i64.bits)=256:=by decide
 have a1:=ze8 h 1
 have a0:=zgR h
 simp only[Nat.mul_one,show(2:Int) ^ 8=256 by decide]at a1
 refine⟨?_,?_,?_,?_⟩
 ·unfold IntKind.shrI
  rw[e,wrap_u8,Int.fdiv_eq_ediv_of_nonneg _ (by decide)];omega
 ·rw[wrap_u8];omega
 ·rw[wrap_u8];omega
 ·rw[wrap_u8];omega
section
variable {P : Program} {e : Operand → D} {m : Mem} {dst : Option Tmp} {ty : TypeId} {pos : String} {af : Array Edge} {gd : Option (Nat × Bool)} {x y : Operand} {t ts : TypeId}
theorem zsP {us bs:List UInt8} {g ver len by_ el:Nat} {agg nw n:Bool} {zs:List V} [hu:SlcI P t el] [ht:TyI P el agg 1 by_ zs] (h1:e x = .own g ver 0 len) (hmg:m.at g = .row ver false nw 1 (us.map zak)) (hlx:len=us.length)
  (h2:e y = .dat n (.str bs)) :
  SStep P ⟨dst,.call { callee := .builtin .copy,args := #[x,y],argTypes := #[t,ts] },ty,pos,af,gd⟩ e m (g::refs0 (e y)) (.dat true (.int .i64 (min bs.length len:Nat))) [(g,.row ver false nw 1 ((bs.take len++us.drop bs.length).map zak))]:=by
 have hl:(us.map zak).length=us.length:=by simp
 have hb:(zbZ bs).length=bs.length:=zcN bs
 have:=zsa (P:=P) (m:=m) (t:=t) (ts:=ts) (el:=el) (by_:=by_) (zs:=zs) (agg:=agg) (dst:=dst) (ty:=ty) (pos:=pos) (af:=af) (gd:=gd) (nf:=true) (n:=true) (els:=zbZ bs) Nat.one_pos h1 hmg (by rw[hl];exact hlx)
  (by rw[h2];exact .str n bs) (zfU (f:=zak) bs) (.inl rfl) (fun v lo l h=>by rw[h2]at h;cases h)
 rw[hb,Bool.and_true,znc,←List.map_take,←List.map_drop,←List.map_append]at this
 exact this
end
attribute [local irreducible] SStep DW DWin DOps zaG zaE zaJ retQ zaN FnF FnG Wk IntKind.wrap IntKind.andI IntKind.orI IntKind.xorI IntKind.andNotI IntKind.shlI IntKind.shrI macS tabK zex inter
theorem zqW (key b:List UInt8) (hk:key.length≤4194304) (hb:b.length≤2097152):FnF Tryz.prog 77 [.slice (key.map zak),.slice (b.map zak)] (.slice ((macS key b).map zak)) :=
 zdV (ds := [.slice (key.map zak),.slice (b.map zak)]) (zsO key b hk hb) (by rw[List.length_map,zmF])
theorem zoU (key b:List UInt8) (hk:key.length≤4194304) (hb:b.length≤2097152):FnF Tryz.prog 127 [.slice (key.map zak),.slice (b.map zak)] (.slice ((macS key b).map zak)) :=
 zdV (ds := [.slice (key.map zak),.slice (b.map zak)]) (zqV key b hk hb) (by rw[List.length_map,zmF])
theorem znj (a b:List UInt8):FnF Tryz.prog 76 [.slice (a.map zak),.slice (b.map zak)] (.bool (decide (a=b))):=by
 refine zal Tryz.func76 rfl rfl rfl ?_
 simp only[zap]
 repeat' (first|refine qU ?_|((first|apply dX rfl|apply Da rfl rfl|apply Db rfl rfl qN);(focus ((try intro hg);first|exact S_bs Tryz.underlying5 Tryz.underlying9 rfl|exact qM));constructor)|refine qP ?_)
 exact ret1 rfl (.inl rfl) rfl
theorem bytes_Equal (a b:List UInt8):FnF Tryz.prog 100 [.slice (a.map zak),.slice (b.map zak)] (.bool (decide (a=b))):=by
 refine zal Tryz.func100 rfl rfl rfl ?_
 simp only[zap]
 repeat' (first|refine qU ?_|((first|apply dX rfl|apply Da rfl rfl|apply Db rfl rfl qN);(focus ((try intro hg);first|exact S_bs Tryz.underlying5 Tryz.underlying9 rfl|exact qM));constructor)|refine qP ?_)
 exact ret1 rfl (.inl rfl) rfl
theorem znk : FnF Tryz.prog 78 [] (.slice (keyR.map zak)):=by
 refine zal Tryz.func78 rfl rfl rfl ?_
 simp only[zap]
 repeat' (first|refine qU ?_|((first|apply dX rfl|apply Da rfl rfl|apply Db rfl rfl qN);(focus ((try intro hg);first|exact qM));constructor)|refine qP ?_)
 exact ret1 rfl (.inl rfl) rfl
set_option maxRecDepth 20000 in
set_option maxHeartbeats 2000000 in
theorem zi7 (r:Region) (hr:r.right):FnF Tryz.prog 35 [r.v] (.slice ((zdm r.ways).map zak)):=by
 refine zal Tryz.func35 rfl rfl rfl ?_
 simp only[zap]
 have hml:(r.ways.map wayV).length=r.ways.length:=by simp
 have hrl:=hr.l
 have hz:List.replicate 8192 (0:UInt8)=inter (tabK r.ways 0):=by rw[zkn,zh6]
 repeat' (first|(apply dt rfl;case h=>exact ziX (f:=zak) (l:=8192) (c:=8192) (0:UInt8) _ rfl rfl rfl rfl (Nat.le_refl _) (by decide) rfl rfl)|refine qU ?_|((first|apply dX rfl|apply Da rfl rfl|apply Db rfl rfl qN);(focus ((try intro hg);first|exact qM));constructor)|refine qP ?_)
 rw[hz]
 refine zag (fun p:Nat×List UInt8=>⟨[(3,.own 6 0 0 8192),(8,.dat false (.slice (r.ways.map wayV))),(9,.dat true (.int .i64 (r.ways.map wayV).length)),(10,.dat true (.int .i64 p.1))],[(6,.row 0 false true 1 (p.2.map zak))],27⟩)
  (fun p=>p.1≤r.ways.length∧p.2=inter (tabK r.ways p.1)) (fun p=>r.ways.length-p.1) (0,inter (tabK r.ways 0)) ⟨Nat.zero_le _,rfl⟩
  (Wk_g some rfl rfl kq) (fun p hR=>?_)
 obtain⟨k,us⟩:=p
 obtain⟨hk,hus⟩:=hR
 simp only at hk hus
 dsimp only
 have hul:us.length=8192:=by rw[hus,zgU,zmD]
 by_cases hlt:k<r.ways.length
 ·have hx:r.ways[(k:Int).toNat]? = some r.ways[k]:=by simp[hlt]
  have hx':r.ways[k]? = some r.ways[k]:=by simp[hlt]
  have hbad:=hr.w _ (List.getElem_mem hlt)
  have hs:=zko hx'
  generalize r.ways[k]=w at hx hx' hbad hs
  unfold Way.bad at hbad
  have hi:(2*w.vid+1).toNat<us.length:=by omega
  have hx0:us[(2*w.vid+1).toNat]? = some us[(2*w.vid+1).toNat]:=List.getElem?_eq_getElem hi
  have hset:us.set (2*w.vid+1).toNat (zay w.tree 0)=inter (tabK r.ways (k+1)):=by
   rw[hs,zkm,←hus,show(2*w.vid+1).toNat=2*w.vid.toNat+1 by omega]
  generalize us[(2*w.vid+1).toNat]=c at hx0
  have hb:=(zi6 (x:=w.tree) (by omega)).2.2.1
  repeat' (first|refine qU ?_|((first|apply dX rfl|apply Da rfl rfl|apply Db rfl rfl qN);(focus ((try intro hg);first|exact zab (zam rfl rfl) (decide_eq_true (by omega:(k:Int)<((r.ways.map wayV).length:Int)))|exact zaf rfl rfl (by omega) hx|exact zaH rfl hb|exact zc7 rfl rfl rfl (by omega) (by omega)|exact zba (f:=zak) (a:=zay w.tree 0) rfl rfl hx0 rfl rfl (.inr ⟨rfl,inferInstance⟩) rfl rfl|exact qM));constructor)|refine qP ?_)
  exact zaa (k+1,us.set (2*w.vid+1).toNat (zay w.tree 0)) ⟨hlt,hset⟩ (by simp only;omega) (Wk_g some rfl rfl kq)
 ·rw[zmE r.ways (by omega)]at hus
  have hm:FnF Tryz.prog 77 [.slice (keyR.map zak),.slice (((us.map zak).drop 0).take 8192)] (.slice ((zdm r.ways).map zak)):=by
   rw[zbp hul,hus]
   exact zqW keyR _ (by decide) (by rw[zgU,zfy];decide)
  repeat' (first|refine qU ?_|((first|apply dX rfl|apply Da rfl rfl|apply Db rfl rfl qN);(focus ((try intro hg);first|exact zab (zam rfl rfl) (decide_eq_false (by omega:¬(k:Int)<((r.ways.map wayV).length:Int)))|exact zac znk rfl|exact zcI 6 rfl rfl (zac hm rfl)|exact qM));constructor)|refine qP ?_)
  exact ret1 rfl (.inl rfl) rfl
set_option maxRecDepth 20000 in
set_option maxHeartbeats 2000000 in
theorem zlx (r:Region) (hr:r.right):FnG Tryz.prog 126 [.dat false r.v] [] (.own 1000 0 0 4096) [(1000,.row 0 false true 1 ((zex r.ways).map zak))]:=by
 refine zbj Tryz.func126 rfl rfl rfl ?_
 simp only[envD]
 have hml:(r.ways.map wayV).length=r.ways.length:=by simp
 have hrl:=hr.l
 have hz:List.replicate 4096 (0:UInt8)=tabK r.ways 0:=(zkn _).symm
 repeat' (first|(apply dt rfl;case h=>exact ziX (f:=zak) (l:=4096) (c:=4096) (0:UInt8) _ rfl rfl rfl rfl (Nat.le_refl _) (by decide) rfl rfl)|refine qU ?_|((first|apply dX rfl|apply Da rfl rfl|apply Db rfl rfl qN);(focus ((try intro hg);first|exact qM));constructor)|refine qP ?_)
 rw[hz]
 refine zag (fun p:Nat×List UInt8=>⟨[(3,.own 6 0 0 4096),(8,.dat false (.slice (r.ways.map wayV))),(9,.dat true (.int .i64 (r.ways.map wayV).length)),(10,.dat true (.int .i64 p.1))],[(6,.row 0 false true 1 (p.2.map zak))],23⟩)
  (fun p=>p.1≤r.ways.length∧p.2=tabK r.ways p.1) (fun p=>r.ways.length-p.1) (0,tabK r.ways 0) ⟨Nat.zero_le _,rfl⟩
  (Wk_g some rfl rfl kq) (fun p hR=>?_)
 obtain⟨k,us⟩:=p
 obtain⟨hk,hus⟩:=hR
 simp only at hk hus
 dsimp only
 have hul:us.length=4096:=by rw[hus,zmD]
 by_cases hlt:k<r.ways.length
 ·have hx:r.ways[(k:Int).toNat]? = some r.ways[k]:=by simp[hlt]
  have hx':r.ways[k]? = some r.ways[k]:=by simp[hlt]
  have hbad:=hr.w _ (List.getElem_mem hlt)
  have hs:=zko hx'
  generalize r.ways[k]=w at hx hx' hbad hs
  unfold Way.bad at hbad
  have hi:w.vid.toNat<us.length:=by omega
  have hx0:us[w.vid.toNat]? = some us[w.vid.toNat]:=List.getElem?_eq_getElem hi
  have hset:us.set w.vid.toNat (zay w.tree 0)=tabK r.ways (k+1):=by rw[hs,←hus]
  generalize us[w.vid.toNat]=c at hx0
  have hb:=(zi6 (x:=w.tree) (by omega)).2.2.1
  repeat' (first|refine qU ?_|((first|apply dX rfl|apply Da rfl rfl|apply Db rfl rfl qN);(focus ((try intro hg);first|exact zab (zam rfl rfl) (decide_eq_true (by omega:(k:Int)<((r.ways.map wayV).length:Int)))|exact zaf rfl rfl (by omega) hx|exact zaH rfl hb|exact zc7 rfl rfl rfl (by omega) (by omega)|exact zba (f:=zak) (a:=zay w.tree 0) rfl rfl hx0 rfl rfl (.inr ⟨rfl,inferInstance⟩) rfl rfl|exact qM));constructor)|refine qP ?_)
  exact zaa (k+1,us.set w.vid.toNat (zay w.tree 0)) ⟨hlt,hset⟩ (by simp only;omega) (Wk_g some rfl rfl kq)
 ·rw[zmE r.ways (by omega)]at hus
  rw[←hus]
  repeat' (first|refine qU ?_|((first|apply dX rfl|apply Da rfl rfl|apply Db rfl rfl qN);(focus ((try intro hg);first|exact zab (zam rfl rfl) (decide_eq_false (by omega:¬(k:Int)<((r.ways.map wayV).length:Int)))|exact qM));constructor)|refine qP ?_)
  exact gOwn (Wk_g (fun g=>if g=1000 then some 6 else none) rfl rfl kq)
theorem znl (r:Region) (hr:r.right):FnF Tryz.prog 126 [r.v] (.slice ((zex r.ways).map zak)) :=
 zdV (ds := [r.v]) (zlx r hr) (by rw[List.length_map,zfy])
set_option maxHeartbeats 2000000 in
theorem zly (r:Region) (hr:r.right):FnF Tryz.prog 74 [r.v] (.slice ((zdm r.ways).map zak)):=by
 refine zal Tryz.func74 rfl rfl rfl ?_
 simp only[zap]
 have hT:=znl r hr
 have hTl:=zfy r.ways
 have hD:zdm r.ways=macS keyR (inter (zex r.ways)):=rfl
 rw[hD]
 generalize zex r.ways=T at hT hTl
 have hml:(T.map zak).length=4096:=by rw[List.length_map,hTl]
 repeat' (first|refine qU ?_|((first|apply dX rfl|apply Da rfl rfl|apply Db rfl rfl qN);(focus ((try intro hg);first|exact zac hT rfl|exact qM));constructor)|refine qP ?_)
 refine zag (fun p:Nat×List UInt8=>⟨[(3,.own 16 0 0 p.2.length),(7,.dat true (.slice (T.map zak))),(8,.dat true (.int .i64 (T.map zak).length)),(9,.dat true (.int .i64 p.1))],[(16,.row 0 false true 1 (p.2.map zak))],21⟩)
  (fun p=>p.1≤4096∧p.2=inter (T.take p.1)) (fun p=>4096-p.1) (0,[]) ⟨Nat.zero_le _,by with_unfolding_all rfl⟩
  (Wk_g (fun g=>if g=16 then none else some g) rfl rfl kq) (fun p hR=>?_)
 obtain⟨k,us⟩:=p
 obtain⟨hk,hus⟩:=hR
 simp only at hk hus
 dsimp only
 have hul:us.length≤8192:=by rw[hus,zgU,List.length_take];omega
 by_cases hlt:k<4096
 ·have hx:T[(k:Int).toNat]? = some (T[k]'(by omega)):=by rw[Int.toNat_natCast];exact List.getElem?_eq_getElem (by omega)
  have hs:=zni (List.getElem?_eq_getElem (by omega:k<T.length))
  generalize T[k]'(by omega)=c at hx hs
  repeat' (first|refine qU ?_|((first|apply dX rfl|apply Da rfl rfl|apply Db rfl rfl qN);(focus ((try intro hg);first|exact zab (zam rfl rfl) (decide_eq_true (by omega:(k:Int)<((T.map zak).length:Int)))|exact zaf (f:=zak) (us:=T) rfl rfl (by omega) hx|exact zan (f:=zak) (us:=us) (bs := [0,c]) rfl rfl (.dat _ _) rfl rfl (.inr ⟨rfl,inferInstance⟩) rfl (by simp only[List.length_cons,List.length_nil];omega)|exact qM));constructor)|refine qP ?_)
  refine zaa (k+1,us++[0,c]) ⟨hlt,?_⟩ (by simp only;omega) (Wk_g some rfl rfl kq)
  simp only
  rw[hs,hus]
 ·rw[List.take_of_length_le (by omega)]at hus
  have hm:FnF Tryz.prog 127 [.slice (keyR.map zak),.slice (((us.map zak).drop 0).take us.length)] (.slice ((macS keyR (inter T)).map zak)):=by
   rw[zbp rfl,←hus]
   exact zoU keyR _ (by decide) (by omega)
  repeat' (first|refine qU ?_|((first|apply dX rfl|apply Da rfl rfl|apply Db rfl rfl qN);(focus ((try intro hg);first|exact zab (zam rfl rfl) (decide_eq_false (by omega:¬(k:Int)<((T.map zak).length:Int)))|exact zcI 16 rfl rfl (zac hm rfl)|exact qM));constructor)|refine qP ?_)
  exact ret1 rfl (.inl rfl) rfl
end Go.Proofs.YtcdhlofhhcgohaaGreat
