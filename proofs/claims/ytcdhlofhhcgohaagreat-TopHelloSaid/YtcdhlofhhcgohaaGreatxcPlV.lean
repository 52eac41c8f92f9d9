/- A net told the other way round: mathematics. -/
import Derived.Test.YtcdhlofhhcgohaaGreatxdHel
import Derived.Test.YtcdhlofhhcgohaaGreatxdMds
import Derived.Test.YtcdhlofhhcgohaaGreatxcPlQ
import Derived.Test.YtcdhlofhhcgohaaGreatxfTalkOpens
namespace Go.Proofs.YtcdhlofhhcgohaaGreat
open Go.RowKit
structure Tale.ok (t:Tale):Prop where
 r0:0≤t.root
 r1:t.root≤18446744073709551615
 b0:0≤t.bridge
 b1:t.bridge≤18446744073709551615
def Hello.ok (h:Hello):Prop:=(∀ t∈h.tales,t.ok)∧h.tales.length≤4194304∧h.digest.length≤1048576
def Tale.bytes (t:Tale):List UInt8:=beBytes t.tree 1++beBytes t.age 1++beBytes t.root 8++beBytes t.cost 4++beBytes t.bridge 8++beBytes t.port 1
theorem Tale.bytes_len (t:Tale):t.bytes.length=23:=by simp[Tale.bytes,beBytes_len]
def talesB (ts:List Tale):List UInt8:=ts.flatMap Tale.bytes
theorem talesB_len : ∀ ts:List Tale,(talesB ts).length=23*ts.length
 | []=>rfl
 | t::r=>by
  have:=talesB_len r
  simp only[talesB,List.flatMap_cons,List.length_append,Tale.bytes_len,List.length_cons]at *
  omega
theorem talesB_snoc (ts:List Tale) (t:Tale):talesB (ts++[t])=talesB ts++t.bytes:=by simp[talesB]
def Hello.bytes (h:Hello):List UInt8:=h.digest++[byteAt h.tales.length 0]++talesB h.tales
def Hello.outB (h:Hello):List UInt8:=if h.wrong=0 then h.bytes else []
theorem talesW_zero : ∀ (ts:List Tale) (last:Int), -1≤last→last≤15→talesW last ts=0→(∀ t∈ts,¬t.bad)∧(ts.length:Int)≤15-last
 | [],last,_,_,_=>by simp;omega
 | t::r,last,h1,h2,h=>by
  rw[talesW]at h
  split at h
  ·cases h
  ·rename_i hb
   split at h
   ·cases h
   ·rename_i hl
    have hb':=hb
    unfold Tale.bad at hb'
    obtain⟨k1,k2⟩:=talesW_zero r t.tree (by omega) (by omega) h
    refine⟨fun u hu=>?_,by simp;omega⟩
    rcases List.mem_cons.1 hu with rfl|hu
    ·exact hb
    ·exact k1 u hu
theorem Hello.right {h:Hello} (hw:h.wrong=0):h.digest.length=16∧(∀ t∈h.tales,¬t.bad)∧h.tales.length≤16:=by
 unfold Hello.wrong at hw
 split at hw
 ·rename_i hd
  obtain⟨k1,k2⟩:=talesW_zero _ _ (by decide) (by decide) hw
  exact⟨hd,k1,by omega⟩
 ·cases hw
theorem u8_byte {x:Int} (h:0≤x):IntKind.u8.wrap x=((byteAt x 0).toNat:Int):=by
 rw[wrap_u8,byteAt_v h];simp
theorem be1 (x:Int):beBytes x 1=[byteAt x 0]:=rfl
attribute [local irreducible] SStep DW DWin DOps thenQ inBlk loopQ retQ retQG FnF FnG Wk IntKind.wrap IntKind.andI IntKind.orI IntKind.xorI IntKind.andNotI IntKind.shlI IntKind.shrI beBytes byteAt beNum Hello.wrong
set_option maxHeartbeats 1000000 in
theorem hello_Bytes (h:Hello) (hk:h.ok):FnF Tryz.prog 36 [h.v] (.tuple [.slice (h.outB.map byteV),.int .i64 h.wrong]):=by
 refine fnF_of Tryz.func36 rfl rfl rfl ?_
 simp only[envOf]
 obtain⟨hk1,hk2,hk3⟩:=hk
 have hW:=hello_Wrong h (by omega)
 unfold Hello.outB
 by_cases hw:h.wrong=0
 ·obtain ⟨r1,r2,r3⟩:=Hello.right hw
  rw[hw]at hW ⊢
  rw[if_pos rfl]
  have hml:(h.tales.map Tale.cells).length=h.tales.length:=by simp
  have hc:IntKind.u8.wrap ((h.tales.map Tale.cells).length:Int)=((byteAt h.tales.length 0).toNat:Int):=by rw[hml];exact u8_byte (by omega)
  repeat' (first|refine qU ?_|(apply dt rfl;case h=>first|exact S_callG0 _ (clone_bytes h.digest (by omega)) rfl rfl (.own _ _))|((first|apply dX rfl|apply Da rfl rfl|apply Db rfl rfl qN);(focus ((try intro hg);first|exact S_call hW rfl|exact as_bool (S_neq rfl rfl) (ne_self _)|exact C_toInt rfl hc|exact S_callG0 _ (clone_bytes h.digest (by omega)) rfl rfl (.own _ _)|exact S_appM (f:=byteV) (us:=h.digest) (bs := [byteAt h.tales.length 0]) rfl rfl (.dat _ _) rfl rfl (.inr ⟨rfl,inferInstance⟩) rfl (by simp only[List.length_cons,List.length_nil];omega)|exact qM));constructor)|refine qP ?_)
  refine DW_loop (fun p:Nat×List UInt8=>⟨[(1,.ptr 1 0),(3,.dat true (.int .i64 0)),(5,.own 15 0 0 p.2.length),(23,.dat false (.slice (h.tales.map Tale.cells))),(24,.dat true (.int .i64 (h.tales.map Tale.cells).length)),(25,.dat true (.int .i64 p.1))],
    [(1,.cells false true (h.cells.map (.dat false))),(15,.row 0 false true 1 (p.2.map byteV))],61⟩)
   (fun p=>p.1≤h.tales.length∧p.2=(h.digest++[byteAt h.tales.length 0])++talesB (h.tales.take p.1)) (fun p=>h.tales.length-p.1) (0,h.digest++[byteAt h.tales.length 0]) ⟨Nat.zero_le _,by simp[talesB]⟩
   (Wk_g some rfl rfl kq) (fun p hR=>?_)
  obtain⟨k,r⟩:=p
  obtain⟨hk0,hr⟩:=hR
  simp only at hk0 hr
  have hrl:r.length≤500:=by
   rw[hr]
   simp only[List.length_append,talesB_len,List.length_take,List.length_singleton]
   omega
  by_cases hlt:k<h.tales.length
  ·have hx:h.tales[(k:Int).toNat]? = some h.tales[k]:=by simp[hlt]
   have hmem:h.tales[k]∈h.tales:=List.getElem_mem hlt
   have hn:h.tales.take (k+1)=h.tales.take k++[h.tales[k]]:=List.take_succ_eq_append_getElem hlt
   generalize h.tales[k]=t at hx hmem hn
   have ht:=hk1 t hmem
   have hnb:=r2 t hmem
   unfold Tale.bad at hnb
   have b1:=u8_byte (x:=t.tree) (by omega)
   have b2:=u8_byte (x:=t.age) (by omega)
   have b3:=u8_byte (x:=t.port) (by omega)
   repeat' (first|(apply DW_true rfl;case hb=>(first|(simp;omega)|(simp;done)))|refine qU ?_|((first|apply dX rfl|apply Da rfl rfl|apply Db rfl rfl qN);(focus ((try intro hg);first|exact S_ixM rfl rfl (by omega) hx|exact C_toInt rfl b1|exact C_toInt rfl b2|exact C_toInt rfl b3|exact S_appM (f:=byteV) (us:=r) (bs := [byteAt t.tree 0,byteAt t.age 0]) rfl rfl (.dat _ _) rfl rfl (.inr ⟨rfl,inferInstance⟩) rfl (by simp only[List.length_cons,List.length_nil];omega)|exact S_callG1 15 (hello_put t.root ht.r0 8 (by decide) _ (by simp only[List.length_append,beBytes_len,List.length_cons,List.length_nil];omega)) rfl rfl (.own _ _)|exact S_callG1 15 (hello_put t.cost (by omega) 4 (by decide) _ (by simp only[List.length_append,beBytes_len,List.length_cons,List.length_nil];omega)) rfl rfl (.own _ _)|exact S_callG1 15 (hello_put t.bridge ht.b0 8 (by decide) _ (by simp only[List.length_append,beBytes_len,List.length_cons,List.length_nil];omega)) rfl rfl (.own _ _)|exact S_appM (f:=byteV) (bs := [byteAt t.port 0]) rfl rfl (.dat _ _) rfl rfl (.inr ⟨rfl,inferInstance⟩) rfl (by simp only[List.length_append,beBytes_len,List.length_cons,List.length_nil];omega)|exact qM));constructor)|refine qP ?_)
   refine loop_again (k+1,r++[byteAt t.tree 0,byteAt t.age 0]++beBytes t.root 8++beBytes t.cost 4++beBytes t.bridge 8++[byteAt t.port 0]) ⟨hlt,?_⟩ (by simp only;omega) (Wk_g some rfl rfl kq)
   simp only
   rw[hn,talesB_snoc,hr]
   simp only[Tale.bytes,be1,List.append_assoc,List.cons_append,List.nil_append]
  ·repeat' (first|(apply DW_false rfl;case hb=>(first|(simp;omega)|(simp;done)))|(refine DW_seal 2 rfl rfl (by simp) ?_;refine DW_ret ?_)|refine qU ?_|((first|apply dX rfl|apply Da rfl rfl|apply Db rfl rfl qN);(focus ((try intro hg);first|exact qM));constructor)|refine qP ?_)
   refine retN (.tmp rfl (.inl rfl) (.tmp rfl qF .nil)) ?_
   rw[List.take_of_length_le (by omega)]at hr
   simp only[pack,Hello.bytes,hr]
 ·rw[if_neg hw]
  repeat' (first|refine qU ?_|((first|apply dX rfl|apply Da rfl rfl|apply Db rfl rfl qN);(focus ((try intro hg);first|exact S_call hW rfl|exact as_bool (S_neq rfl rfl) (decide_eq_true hw)|exact qM));constructor)|refine qP ?_)
  refine retN (.tmp rfl qF (.tmp rfl qF .nil)) ?_
  rfl
end Go.Proofs.YtcdhlofhhcgohaaGreat
namespace Go.Proofs.YtcdhlofhhcgohaaGreat
open Go.RowKit
def Tale.read (b:List UInt8):Tale:=⟨beNum (b.take 1),beNum ((b.drop 2).take 8),beNum ((b.drop 10).take 4),beNum ((b.drop 14).take 8),beNum ((b.drop 22).take 1),beNum ((b.drop 1).take 1)⟩
def talesR : Nat→List UInt8→List Tale
 | 0,_=>[]
 | n+1,b=>Tale.read b::talesR n (b.drop 23)
def Hello.read (b:List UInt8):Option Hello:=match b[16]? with
 | none=>none
 | some c=>if b.length=17+23*c.toNat then some ⟨b.take 16,talesR c.toNat (b.drop 17)⟩else none
def Hello.pF (b:List UInt8):Hello:=match Hello.read b with|none=>.zero|some h=>if h.wrong=0 then h else .zero
def Hello.pE (b:List UInt8):Int:=match Hello.read b with|none=>2|some h=>h.wrong
theorem talesR_len : ∀ (n:Nat) (b:List UInt8),(talesR n b).length=n
 | 0,_=>rfl
 | n+1,b=>by simp[talesR,talesR_len n]
theorem talesR_snoc : ∀ (n:Nat) (b:List UInt8),talesR (n+1) b=talesR n b++[Tale.read (b.drop (23*n))]
 | 0,b=>by simp[talesR]
 | n+1,b=>by
  rw[talesR,talesR_snoc n (b.drop 23),talesR,List.drop_drop,show 23+23*n=23*(n+1) by omega]
  rfl
theorem Tale.read_ok (b:List UInt8):(Tale.read b).ok:=⟨(beNum_range _).1,by have:=(beNum_range ((b.drop 2).take 8)).2;simp only[Tale.read];omega,(beNum_range _).1,by have:=(beNum_range ((b.drop 14).take 8)).2;simp only[Tale.read];omega⟩
theorem talesR_ok : ∀ (n:Nat) (b:List UInt8),∀ t∈talesR n b,t.ok
 | 0,_=>by simp[talesR]
 | n+1,b=>fun t ht=>by
  rw[talesR]at ht
  rcases List.mem_cons.1 ht with rfl|ht
  ·exact Tale.read_ok b
  ·exact talesR_ok n _ t ht
theorem Hello.read_ok {b:List UInt8} {h:Hello} (hr:Hello.read b=some h):h.ok∧h.tales.length≤255∧h.digest.length≤16:=by
 unfold Hello.read at hr
 split at hr
 ·cases hr
 ·rename_i c hc
  split at hr
  ·injection hr with hr
   subst hr
   have:=c.toNat_lt
   have hl:=talesR_len c.toNat (b.drop 17)
   exact⟨⟨talesR_ok _ _,by simp only;omega,by simp;omega⟩,by simp only;omega,by simp;omega⟩
  ·cases hr
theorem take1 {b:List UInt8} {k:Nat} {x:UInt8} (h:b[k]? = some x):beNum ((b.drop k).take 1)=x.toNat:=by
 obtain⟨h1,h2⟩:=List.getElem?_eq_some_iff.1 h
 rw[List.drop_eq_getElem_cons h1]
 have:=x.toNat_lt
 simp[h2,beNum];omega
theorem some_atH {b:List UInt8} {k:Nat} (h:k<b.length):∃ x,b[k]? = some x:=⟨_,List.getElem?_eq_getElem h⟩
theorem beNum_lt4 (b:List UInt8):beNum (b.take 4)<4294967296:=by
 have h:(b.take 4).length≤4:=by simp;omega
 generalize b.take 4=l at h
 unfold beNum
 match l,h with
 | [],_=>simp
 | [a],_=>have:=a.toNat_lt;simp;omega
 | [a,b],_=>have:=a.toNat_lt;have:=b.toNat_lt;simp;omega
 | [a,b,c],_=>have:=a.toNat_lt;have:=b.toNat_lt;have:=c.toNat_lt;simp;omega
 | [a,b,c,d],_=>have:=a.toNat_lt;have:=b.toNat_lt;have:=c.toNat_lt;have:=d.toNat_lt;simp;omega
attribute [local irreducible] SStep DW DWin DOps thenQ inBlk loopQ retQ retQG FnF FnG Wk IntKind.wrap IntKind.andI IntKind.orI IntKind.xorI IntKind.andNotI IntKind.shlI IntKind.shrI beBytes byteAt beNum Hello.wrong
set_option maxHeartbeats 2000000 in
theorem hello_Parse (b:List UInt8) (hb:b.length≤1048576):FnF Tryz.prog 37 [.slice (b.map byteV)] (.tuple [(Hello.pF b).v,.int .i64 (Hello.pE b)]):=by
 refine fnF_of Tryz.func37 rfl rfl rfl ?_
 simp only[envOf]
 have hml:((b.map byteV).length:Int)=b.length:=by simp
 by_cases h17:b.length<17
 ·have hr:Hello.read b=none:=by
   unfold Hello.read
   cases h16:b[16]? with
   | none=>rfl
   | some c=>simp only;rw[if_neg (by omega)]
  repeat' (first|refine qU ?_|((first|apply dX rfl|apply Da rfl rfl|apply Db rfl rfl qN);(focus ((try intro hg);first|exact as_bool (S_lss rfl rfl) (decide_eq_true (by omega:((b.map byteV).length:Int)<17))|exact qM));constructor)|refine qP ?_)
  refine retN (.cellA inferInstance rfl rfl rfl rfl qF (.tmp rfl (.inr (.int _ _)) .nil)) ?_
  simp only[Hello.pF,Hello.pE,hr];rfl
 obtain⟨c,hc⟩:=some_atH (b:=b) (k:=16) (by omega)
 have lc:=c.toNat_lt
 by_cases hl:b.length=17+23*c.toNat
 ·have hr:Hello.read b=some ⟨b.take 16,talesR c.toNat (b.drop 17)⟩:=by
   unfold Hello.read;rw[hc];simp only[if_pos hl]
  have hne:decide (((b.map byteV).length:Int)≠17+23*c.toNat)=false:=decide_eq_false (by omega)
  obtain⟨hok,hl1,hl2⟩:=Hello.read_ok hr
  have hW:=hello_Wrong _ (by omega:(Hello.mk (b.take 16) (talesR c.toNat (b.drop 17))).tales.length≤1099511627776)
  generalize hrest:b.drop 17=rest at *
  have hrl:rest.length=23*c.toNat:=by rw[←hrest];simp;omega
  generalize hdg:b.take 16=dg at *
  have hdl:dg.length=16:=by rw[←hdg];simp;omega
  repeat' (first|refine qU ?_|(apply dt rfl;case h=>first|exact S_callG0 _ (clone_bytes dg (by omega)) rfl rfl (.own _ _))|((first|apply dX rfl|apply Da rfl rfl|apply Db rfl rfl qN);(focus ((try intro hg);first|exact S_ixM rfl rfl (by decide) hc|exact as_bool (S_lss rfl rfl) (decide_eq_false (by omega:¬((b.map byteV).length:Int)<17))|exact as_bool (S_neq rfl rfl) hne|exact S_slM dg rfl (.none _) (.some _ _ _ _ 16 rfl) (by omega) (by omega) hdg|exact S_slM rest rfl (.some _ _ _ _ 17 rfl) (.none _) (by omega) (by omega) (tail_eq.trans hrest)|exact S_callG0 _ (clone_bytes dg (by omega)) rfl rfl (.own _ _)|exact qM));constructor)|refine qP ?_)
  refine DW_loop (fun p:Nat×List Tale×List UInt8=>⟨[(0,.dat false (.slice (p.2.2.map byteV))),(2,.ptr 2 0),(3,.dat true (.int .i64 0)),(4,.ptr 4 0)],
    [(2,.cells false true [.nil,.nil]),(4,.cells false true [.own 23 0 0 dg.length,.own 59 0 0 p.2.1.length]),(23,.row 0 false true 1 (dg.map byteV)),(59,.row 0 false true 6 (p.2.1.map Tale.cells))],68⟩)
   (fun p=>p.1≤c.toNat∧p.2.1=talesR p.1 rest∧p.2.2=rest.drop (23*p.1)) (fun p=>c.toNat-p.1) (0,[],rest) ⟨Nat.zero_le _,rfl,rfl⟩
   (Wk_g (fun g=>if g=59 then none else some g) rfl rfl kq) (fun p hR=>?_)
  obtain⟨j,us,r⟩:=p
  obtain⟨hj,hus,hr2⟩:=hR
  simp only at hj hus hr2
  dsimp only
  have hul:us.length=j:=by rw[hus,talesR_len]
  have hrl2:r.length=23*(c.toNat-j):=by rw[hr2];simp;omega
  by_cases hlt:j<c.toNat
  ·obtain⟨x0,hx0⟩:=some_atH (b:=r) (k:=0) (by omega)
   obtain⟨x1,hx1⟩:=some_atH (b:=r) (k:=1) (by omega)
   obtain⟨x22,hx22⟩:=some_atH (b:=r) (k:=22) (by omega)
   have l0:=x0.toNat_lt
   have l1:=x1.toNat_lt
   have l22:=x22.toNat_lt
   have l4:=beNum_lt4 (r.drop 10)
   have l4':=(beNum_range ((r.drop 10).take 4)).1
   have htr:Tale.read r=⟨x0.toNat,beNum ((r.drop 2).take 8),beNum ((r.drop 10).take 4),beNum ((r.drop 14).take 8),x22.toNat,x1.toNat⟩:=by
    unfold Tale.read
    rw[take1 hx1,take1 hx22,show r.take 1=(r.drop 0).take 1 from rfl,take1 hx0]
   have hgt:decide ((0:Int)<((r.map byteV).length:Int))=true:=decide_eq_true (by rw[List.length_map];omega)
   repeat' (first|refine qU ?_|((first|apply dX rfl|apply Da rfl rfl|apply Db rfl rfl qN);(focus ((try intro hg);first|exact as_bool (S_gtr rfl rfl) hgt|exact S_ixM rfl rfl (by decide) hx0|exact S_ixM rfl rfl (by decide) hx1|exact S_ixM rfl rfl (by decide) hx22|exact S_slM ((r.drop 2).take 8) rfl (.some _ _ _ _ 2 rfl) (.some _ _ _ _ 10 rfl) (by omega) (by omega) rfl|exact S_slM ((r.drop 10).take 4) rfl (.some _ _ _ _ 10 rfl) (.some _ _ _ _ 14 rfl) (by omega) (by omega) rfl|exact S_slM ((r.drop 14).take 8) rfl (.some _ _ _ _ 14 rfl) (.some _ _ _ _ 22 rfl) (by omega) (by omega) rfl|exact S_slM (r.drop 23) rfl (.some _ _ _ _ 23 rfl) (.none _) (by omega) (by omega) tail_eq|exact S_call (hello_number ((r.drop 2).take 8) (by simp;omega)) rfl|exact S_call (hello_number ((r.drop 10).take 4) (by simp;omega)) rfl|exact S_call (hello_number ((r.drop 14).take 8) (by simp;omega)) rfl|exact S_appM (f:=Tale.cells) (us:=us) (bs := [⟨x0.toNat,beNum ((r.drop 2).take 8),beNum ((r.drop 10).take 4),beNum ((r.drop 14).take 8),x22.toNat,x1.toNat⟩]) rfl rfl (.dat _ _) rfl rfl (.inr ⟨rfl,inferInstance⟩) rfl (by simp only[List.length_cons,List.length_nil];omega)|exact qM));constructor)|refine qP ?_)
   refine loop_again (j+1,us++[⟨x0.toNat,beNum ((r.drop 2).take 8),beNum ((r.drop 10).take 4),beNum ((r.drop 14).take 8),x22.toNat,x1.toNat⟩],r.drop 23) ⟨hlt,?_,?_⟩ (by simp only;omega) (Wk_g some rfl rfl kq)
   ·simp only
    rw[talesR_snoc,←hus,←hr2,htr]
   ·simp only
    rw[hr2,List.drop_drop,show 23*j+23=23*(j+1) by omega]
  ·have hjc:j=c.toNat:=by omega
   subst hjc
   rw[←hus]at hr hW
   refine DW_freeze 23 (by intro kt et es h;cases (show Box.row _ _ _ _ _=Box.mapb _ _ _ from h)) ?_
   refine DW_freeze 59 (by intro kt et es h;cases (show Box.row _ _ _ _ _=Box.mapb _ _ _ from h)) ?_
   have e1:=whole_eq (f:=byteV) (us:=dg) rfl
   have e2:=whole_eq (f:=Tale.cells) (us:=us) rfl
   have hW':FnF Tryz.prog 79 [.agg [.slice (((dg.map byteV).drop 0).take dg.length),.slice (((us.map Tale.cells).drop 0).take us.length)]] (.int .i64 (Hello.mk dg us).wrong):=by
    rw[e1,e2];exact hW
   have hgt:decide ((0:Int)<((r.map byteV).length:Int))=false:=decide_eq_false (by rw[List.length_map];omega)
   by_cases hw:(Hello.mk dg us).wrong=0
   ·rw[hw]at hW'
    repeat' (first|refine qU ?_|((first|apply dX rfl|apply Da rfl rfl|apply Db rfl rfl qN);(focus ((try intro hg);first|exact as_bool (S_gtr rfl rfl) hgt|exact S_call hW' rfl|exact as_bool (S_neq rfl rfl) (ne_self _)|exact qM));constructor)|refine qP ?_)
    refine retN (.cellA inferInstance rfl rfl rfl rfl (.inl rfl) (.tmp rfl qF .nil)) ?_
    simp only[Hello.pF,Hello.pE,hr,hw,if_true,pack,e1,e2]
    rfl
   ·repeat' (first|refine qU ?_|((first|apply dX rfl|apply Da rfl rfl|apply Db rfl rfl qN);(focus ((try intro hg);first|exact as_bool (S_gtr rfl rfl) hgt|exact S_call hW' rfl|exact as_bool (S_neq rfl rfl) (decide_eq_true hw)|exact qM));constructor)|refine qP ?_)
    refine retN (.cellA inferInstance rfl rfl rfl rfl qF (.tmp rfl (.inr (.int _ _)) .nil)) ?_
    simp only[Hello.pF,Hello.pE,hr,if_neg hw]
    rfl
 ·have hr:Hello.read b=none:=by
   unfold Hello.read;rw[hc];simp only[if_neg hl]
  have hne:decide (((b.map byteV).length:Int)≠17+23*c.toNat)=true:=decide_eq_true (by omega)
  repeat' (first|refine qU ?_|((first|apply dX rfl|apply Da rfl rfl|apply Db rfl rfl qN);(focus ((try intro hg);first|exact S_ixM rfl rfl (by decide) hc|exact as_bool (S_lss rfl rfl) (decide_eq_false (by omega:¬((b.map byteV).length:Int)<17))|exact as_bool (S_neq rfl rfl) hne|exact qM));constructor)|refine qP ?_)
  refine retN (.cellA inferInstance rfl rfl rfl rfl qF (.tmp rfl (.inr (.int _ _)) .nil)) ?_
  simp only[Hello.pF,Hello.pE,hr];rfl
end Go.Proofs.YtcdhlofhhcgohaaGreat
namespace Go.Proofs.YtcdhlofhhcgohaaGreat
open Go.RowKit
attribute [local irreducible] SStep DW DWin DOps thenQ inBlk loopQ retQ retQG FnF FnG Wk IntKind.wrap IntKind.andI IntKind.orI IntKind.xorI IntKind.andNotI IntKind.shlI IntKind.shrI beBytes byteAt beNum Hello.wrong
set_option maxHeartbeats 1000000 in
theorem ref4_Same (a:Hello) (ha:a.tales.length≤1099511627776):FnF Tryz.prog 38 [a.v,a.v] (.bool true):=by
 refine fnF_of Tryz.func38 rfl rfl rfl ?_
 simp only[envOf]
 have la:(a.tales.map Tale.cells).length=a.tales.length:=by simp
 repeat' (first|refine qU ?_|((first|apply dX rfl|apply Da rfl rfl|apply Db rfl rfl qN);(focus ((try intro hg);first|exact S_bs Tryz.underlying5 Tryz.underlying9 rfl|exact as_bool (S_neqs rfl rfl) (ne_self _)|exact as_bool (S_neq rfl rfl) (ne_self _)|exact qM));constructor)|refine qP ?_)
 refine DW_loop (fun k:Nat=>⟨[(2,.ptr 2 0),(3,.ptr 3 0),(23,.dat false (.slice (a.tales.map Tale.cells))),(24,.dat true (.int .i64 (a.tales.map Tale.cells).length)),(25,.dat true (.int .i64 k))],
   [(2,.cells false true (a.cells.map (.dat false))),(3,.cells false true (a.cells.map (.dat false)))],40⟩)
  (fun k=>k≤a.tales.length) (fun k=>a.tales.length-k) 0 (Nat.zero_le _)
  (Wk_g some rfl rfl kq) (fun k hk=>?_)
 by_cases hlt:k<a.tales.length
 ·have hx:a.tales[(k:Int).toNat]? = some a.tales[k]:=by simp[hlt]
  generalize a.tales[k]=t at hx
  repeat' (first|refine qU ?_|refine DW_cond rfl (fun hb=>?_) (fun hb=>?_)|((first|apply dX rfl|apply Da rfl rfl|apply Db rfl rfl qN);(focus ((try intro hg);first|exact as_bool (S_lss rfl rfl) (decide_eq_true (by omega:(k:Int)<((a.tales.map Tale.cells).length:Int)))|exact S_ixM rfl rfl (by omega) hx|exact qM));constructor)|refine qP ?_)
  ·simp at hb
  ·exact loop_again (k+1) hlt (by omega) (Wk_g some rfl rfl kq)
 ·repeat' (first|refine qU ?_|((first|apply dX rfl|apply Da rfl rfl|apply Db rfl rfl qN);(focus ((try intro hg);first|exact as_bool (S_lss rfl rfl) (decide_eq_false (by omega:¬(k:Int)<((a.tales.map Tale.cells).length:Int)))|exact qM));constructor)|refine qP ?_)
  exact ret1 rfl (.inl rfl) rfl
end Go.Proofs.YtcdhlofhhcgohaaGreat
namespace Go.Proofs.YtcdhlofhhcgohaaGreat
open Go.RowKit
theorem Tale.read_bytes (t:Tale) (ht:t.ok) (hb:¬t.bad) (rest:List UInt8):Tale.read (t.bytes++rest)=t∧(t.bytes++rest).drop 23=rest:=by
 unfold Tale.bad at hb
 have p1:(256:Int) ^ 1=256:=by decide
 have p4:(256:Int) ^ 4=4294967296:=by decide
 have p8:(256:Int) ^ 8=18446744073709551616:=by decide
 have q1:=ht.r0
 have q2:=ht.r1
 have q3:=ht.b0
 have q4:=ht.b1
 have e:t.bytes++rest=beBytes t.tree 1++(beBytes t.age 1++(beBytes t.root 8++(beBytes t.cost 4++(beBytes t.bridge 8++(beBytes t.port 1++rest))))):=by
  unfold Tale.bytes;simp only[List.append_assoc]
 obtain⟨a1,a2⟩:=append_of e (beBytes_len _ _)
 obtain⟨b1,b2⟩:=append_of a2 (beBytes_len _ _)
 rw[List.drop_drop]at b2
 obtain⟨c1,c2⟩:=append_of b2 (beBytes_len _ _)
 rw[List.drop_drop]at c2
 obtain⟨d1,d2⟩:=append_of c2 (beBytes_len _ _)
 rw[List.drop_drop]at d2
 obtain⟨e1,e2⟩:=append_of d2 (beBytes_len _ _)
 rw[List.drop_drop]at e2
 obtain⟨f1,f2⟩:=append_of e2 (beBytes_len _ _)
 rw[List.drop_drop]at f2
 refine⟨?_,f2⟩
 unfold Tale.read
 rw[a1,b1]
 have c1':((t.bytes++rest).drop 2).take 8=beBytes t.root 8:=c1
 have d1':((t.bytes++rest).drop 10).take 4=beBytes t.cost 4:=d1
 have e1':((t.bytes++rest).drop 14).take 8=beBytes t.bridge 8:=e1
 have f1':((t.bytes++rest).drop 22).take 1=beBytes t.port 1:=f1
 rw[c1',d1',e1',f1',num_be 1 t.tree (by omega) (by omega) (by decide),num_be 1 t.age (by omega) (by omega) (by decide),num_be 8 t.root (by omega) (by omega) (by decide),
  num_be 4 t.cost (by omega) (by omega) (by decide),num_be 8 t.bridge (by omega) (by omega) (by decide),num_be 1 t.port (by omega) (by omega) (by decide)]
theorem talesR_B : ∀ (ts:List Tale),(∀ t∈ts,t.ok∧¬t.bad)→talesR ts.length (talesB ts)=ts
 | [],_=>rfl
 | t::r,h=>by
  obtain⟨h1,h2⟩:=h t (List.mem_cons.2 (.inl rfl))
  have e:talesB (t::r)=t.bytes++talesB r:=by simp[talesB]
  obtain⟨k1,k2⟩:=Tale.read_bytes t h1 h2 (talesB r)
  rw[List.length_cons,talesR,e,k1,k2,talesR_B r (fun u hu=>h u (List.mem_cons.2 (.inr hu)))]
theorem Hello.bytes_len (h:Hello):h.bytes.length=h.digest.length+1+23*h.tales.length:=by
 unfold Hello.bytes;simp only[List.length_append,talesB_len,List.length_singleton]
theorem Hello.outB_len (h:Hello):h.outB.length≤385:=by
 unfold Hello.outB
 split
 ·rename_i hw
  obtain⟨r1,_,r3⟩:=Hello.right hw
  rw[h.bytes_len];omega
 ·simp
theorem Hello.read_bytes (h:Hello) (hk:h.ok) (hw:h.wrong=0):Hello.read h.bytes=some h:=by
 obtain⟨r1,r2,r3⟩:=Hello.right hw
 have e:h.bytes=h.digest++([byteAt h.tales.length 0]++talesB h.tales):=by unfold Hello.bytes;simp only[List.append_assoc]
 obtain⟨a1,a2⟩:=append_of e r1
 obtain⟨b1,b2⟩:=append_of (k:=1) a2 rfl
 rw[List.drop_drop]at b2
 have hb:((byteAt h.tales.length 0).toNat:Int)=h.tales.length:=by rw[byteAt_zero (by omega)];omega
 have hc:h.bytes[16]? = some (byteAt h.tales.length 0):=by
  have:=List.getElem?_drop (xs:=h.bytes) (i:=16) (j:=0)
  rw[a2]at this
  simpa using this.symm
 have hbl:=h.bytes_len
 unfold Hello.read
 rw[hc]
 simp only
 rw[if_pos (by omega),a1]
 have b2':h.bytes.drop 17=talesB h.tales:=b2
 rw[b2',show(byteAt h.tales.length 0).toNat=h.tales.length by omega,talesR_B _ (fun t ht=>⟨hk.1 t ht,r2 t ht⟩)]
theorem Hello.outB_back {h:Hello} (hk:h.ok) (hw:h.wrong=0):Hello.pF h.outB=h∧Hello.pE h.outB=0:=by
 unfold Hello.pF Hello.pE Hello.outB
 rw[if_pos hw,Hello.read_bytes h hk hw]
 simp only[hw,if_true,and_self]
end Go.Proofs.YtcdhlofhhcgohaaGreat
namespace Go.Proofs.YtcdhlofhhcgohaaGreat
open Go.RowKit
attribute [local irreducible] SStep DW DWin DOps thenQ inBlk loopQ retQ retQG FnF FnG FnI Wk IntKind.wrap IntKind.andI IntKind.orI IntKind.xorI IntKind.andNotI IntKind.shlI IntKind.shrI portsU hitL
theorem hitL_eq (b p:Int) (l:Link):hitL b p l=((decide (l.a=b) && decide (l.pa=p)) || (decide (l.b=b) && decide (l.pb=p))):=by with_unfolding_all rfl
theorem hit_take {b p:Int} {ls:List Link} {k:Nat} {l:Link} (h:ls[k]? = some l):((ls.take (k+1)).filter (hitL b p)).map (fun _=>p)=((ls.take k).filter (hitL b p)).map (fun _=>p)++(if hitL b p l=true then [p]else []):=by
 rw[List.take_add_one,h,List.filter_append,List.map_append]
 congr 1
 simp only[Option.toList_some,List.filter_cons,List.filter_nil]
 split<;>rfl
set_option maxHeartbeats 4000000 in
theorem ref6_Ports (n:Net) (h:n.good) (b:Int):FnF Tryz.prog 42 [n.v,.int .i64 b] (.slice ((portsOf n.links b).map intV1)):=by
 refine fnF_of Tryz.func42 rfl rfl rfl ?_
 simp only[envOf]
 have hml:(n.links.map linkV).length=n.links.length:=by simp
 have hnl:=h.nl
 repeat' (first|refine qU ?_|((first|apply dX rfl|apply Da rfl rfl|apply Db rfl rfl qN);(focus ((try intro hg);first|exact qM));constructor)|refine qP ?_)
 refine DW_loop (fun q:Nat×List Int=>⟨[(1,.dat false (.int .i64 b)),(2,.ptr 2 0),(5,.own 5 0 0 q.2.length),(6,.dat true (.int .i64 ((q.1:Int)+1)))],
   [(2,.cells false true (n.cells.map (.dat false))),(5,.row 0 false true 1 (q.2.map intV1))],48⟩)
  (fun q=>q.1≤30∧q.2=portsU n.links b q.1) (fun q=>30-q.1) (0,[]) ⟨Nat.zero_le _,by with_unfolding_all rfl⟩
  (Wk_g (fun g=>if g=5 then none else some g) rfl rfl kq) (fun q hR=>?_)
 obtain⟨P,us⟩:=q
 obtain⟨hP,hus⟩:=hR
 simp only at hP hus
 dsimp only
 have hul:us.length≤1200:=by
  rw[hus]
  have h1:=portsU_len n.links b P
  have h2:P*n.links.length≤30*40:=Nat.mul_le_mul hP hnl
  omega
 by_cases hlt:P<30
 ·repeat' (first|refine qU ?_|refine qW ?_|((first|apply dX rfl|apply Da rfl rfl|apply Db rfl rfl qN);(focus ((try intro hg);first|exact qMo));constructor)|refine qP ?_)
  refine DW_loop (fun q:Nat×List Int=>⟨[(1,.dat false (.int .i64 b)),(2,.ptr 2 0),(5,.own 5 0 0 q.2.length),(6,.dat true (.int .i64 ((P:Int)+1))),(14,.dat false (.slice (n.links.map linkV))),(15,.dat true (.int .i64 (n.links.map linkV).length)),(16,.dat true (.int .i64 q.1))],
    [(2,.cells false true (n.cells.map (.dat false))),(5,.row 0 false true 1 (q.2.map intV1))],48⟩)
   (fun q=>q.1≤n.links.length∧q.2=us++((n.links.take q.1).filter (hitL b ((P:Int)+1))).map (fun _=>(P:Int)+1)) (fun q=>n.links.length-q.1) (0,us) ⟨Nat.zero_le _,by simp⟩ (Wk_g some rfl rfl kq) (fun q hR=>?_)
  obtain⟨k,vs⟩:=q
  obtain⟨hk,hvs⟩:=hR
  simp only at hk hvs
  dsimp only
  have hvl:vs.length≤1240:=by
   rw[hvs,List.length_append,List.length_map]
   have h1:=List.length_filter_le (hitL b ((P:Int)+1)) (n.links.take k)
   rw[List.length_take]at h1
   omega
  by_cases hlt2:k<n.links.length
  ·have hx:n.links[(k:Int).toNat]? = some n.links[k]:=by simp[hlt2]
   have hx':n.links[k]? = some n.links[k]:=by simp[hlt2]
   have hst:=hit_take (b:=b) (p:=(P:Int)+1) hx'
   generalize n.links[k]=l at hx hx' hst
   rw[hitL_eq]at hst
   repeat' (first|refine qU ?_|refine qW ?_|((first|apply dX rfl|apply Da rfl rfl|apply Db rfl rfl qN);(focus ((try intro hg);first|exact S_ixM rfl rfl (by omega) hx|exact qMo));constructor)|refine qP ?_)
   refine DW_cond rfl (fun hb=>?_) (fun hb=>?_)
   ·rw[if_pos hb]at hst
    repeat' (first|refine qU ?_|refine qW ?_|((first|apply dX rfl|apply Da rfl rfl|apply Db rfl rfl qN);(focus ((try intro hg);first|exact S_appM (f:=intV1) (us:=vs) (bs := [(P:Int)+1]) rfl rfl (.dat _ _) rfl rfl (.inr ⟨rfl,inferInstance⟩) rfl (by simp only[List.length_singleton];omega)|exact qM));constructor)|refine qP ?_)
    exact loop_again (k+1,vs++[(P:Int)+1]) ⟨hlt2,by simp only;rw[hst,hvs,List.append_assoc]⟩ (by simp only;omega) (Wk_g some rfl rfl kq)
   ·rw[if_neg (by rw[hb];exact Bool.false_ne_true)]at hst
    repeat' (first|refine qU ?_|refine qW ?_|((first|apply dX rfl|apply Da rfl rfl|apply Db rfl rfl qN);(focus ((try intro hg);first|exact qM));constructor)|refine qP ?_)
    exact loop_again (k+1,vs) ⟨hlt2,by simp only;rw[hst,hvs,List.append_nil]⟩ (by simp only;omega) (Wk_g some rfl rfl kq)
  ·have hnext:vs=portsU n.links b (P+1):=by
    rw[hvs,List.take_of_length_le (by omega),hus]
    with_unfolding_all exact(portsU_succ n.links b P).symm
   repeat' (first|refine qU ?_|refine qW ?_|((first|apply dX rfl|apply Da rfl rfl|apply Db rfl rfl qN);(focus ((try intro hg);first|exact qMo));constructor)|refine qP ?_)
   refine loop_again (P+1,vs) ⟨hlt,hnext⟩ (by simp only;omega) ?_
   simp only[Int.natCast_succ]
   exact(Wk_g some rfl rfl kq)
 ·have he:us=portsOf n.links b:=by
   have:P=30:=by omega
   subst this
   rw[hus]
   exact portsU_eq b h.lk
  refine DW_seal 5 rfl rfl (by simp) ?_
  repeat' (first|refine qU ?_|refine qW ?_|((first|apply dX rfl|apply Da rfl rfl|apply Db rfl rfl qN);(focus ((try intro hg);first|exact qMo));constructor)|refine qP ?_)
  refine ret1 rfl qF ?_
  rw[←he]
end Go.Proofs.YtcdhlofhhcgohaaGreat
namespace Go.Proofs.YtcdhlofhhcgohaaGreat
open Go.RowKit
def flipL (k:Int) (l:Link):Link := { l with a:=IntKind.i64.wrap (k-1-l.a),b:=IntKind.i64.wrap (k-1-l.b) }
def revN (n:Net):Net:=⟨n.bridges.reverse,(n.links.map (flipL n.bridges.length)).reverse⟩
section
variable {n : Net} (h : n.good) (hm : (revN n).good) (tree : Int)
include h
include hm
end
end Go.Proofs.YtcdhlofhhcgohaaGreat
