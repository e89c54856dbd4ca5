/- Texts of the walk. -/
import Derived.Test.YtdfgoekdlmkdfaaGreatDoorMg
import Derived.Test.YtdfgoekdlmkdfaaGreatDoorCards
namespace Go.Proofs.YtdfgoekdlmkdfaaGreatDoor
set_option linter.defProp false
set_option maxHeartbeats 64000000
set_option linter.unusedSimpArgs false
set_option linter.unusedVariables false
open Go.RowKit Go.Lib
open Go.RowKit
theorem back_hex:∀n:Fin 256,ZyC (ZyR (UInt8.ofNat n.val / 16))<16/\ZyC (ZyR (UInt8.ofNat n.val % 16))<16/\ZyC (ZyR (UInt8.ofNat n.val / 16)) * 16+ZyC (ZyR (UInt8.ofNat n.val % 16))=UInt8.ofNat n.val:=by decide +kernel
theorem Zzh:∀l:Tx,unhex (l.flatMap hex2)=some l
 | []=>rfl
 | c :: l=>by
  have ih:=Zzh l
  have h:=back_hex ⟨c.toNat,c.toNat_lt⟩
  simp only[UInt8.ofNat_toNat]at h
  rw[zaz]
  show unhex (ZyR (c / 16) :: ZyR (c % 16) :: l.flatMap hex2)=_
  rw[unhex,if_pos ⟨h.1,h.2.1⟩,ih,h.2.2]
  rfl
theorem Zz0 (l:Tx):ZyB (Zy7 l)=false:=by
 unfold ZyB Zy7
 rw[List.all_cons]
 rfl
theorem ZzS (s:Tx):ZyG (ZyH s)=some s:=by
 have h:=bfb (ZyB s)
 rcases h with h|h
 ·rw[ZyN h,Zy7,ZyD (Zz0 s),Zzh]
  simp only
  exact if_pos (ZyN h)
 ·rw[ZyF h]
  unfold ZyG
  rw[h]
  rfl
theorem Zzn {w u:Tx} (h:ZyG w=some u):ZyH u=w:=by
 have hb:=bfb (ZyB w)
 rcases hb with hb|hb
 ·match w with
  | []=>cases h
  | c :: l =>
   by_cases hc:c=37
   ·subst hc
    rw[ZyD hb]at h
    split at h
    ·split at h
     ·rename_i e
      injection h with h
      rw[<- h];exact e
     ·cases h
    ·cases h
   ·rw[ZyZ hb hc]at h;cases h
 ·unfold ZyG at h
  rw[hb]at h
  simp only[if_true,zab]at h
  rw[<- h]
  exact ZyF hb
theorem ZzU (s:Tx):(ZyH s).length<=2 * s.length+1:=by
 have h:=bfb (ZyB s)
 rcases h with h|h
 ·rw[ZyN h,ZyP];omega
 ·rw[ZyF h];omega
theorem ZzT {w u:Tx} (h:ZyG w=some u):u.length<=w.length:=by
 have e:=Zzn h
 have hb:=bfb (ZyB u)
 rcases hb with hb|hb
 ·rw[ZyN hb]at e
  have:=ZyP u
  rw[e]at this;omega
 ·rw[ZyF hb]at e
  rw[e];omega
theorem env_of {W:World} (h:laidMetH Tryz.prog Rows.lineShowsRow.laid W):EnvP (Zjd W) W:=by
 have e:(Rows.lineShowsRow.laid.filter fun x=>x.2.handleName?.isSome)=[]:=by kernel_rfl
 unfold laidMetH at h
 rw[e]at h
 obtain⟨ps,hl,_⟩:=h
 obtain⟨g1,t1,c1,f1,p1,q1,n1,y1,v1,d1,hl,_⟩:=hl
 obtain⟨g2,t2,c2,f2,p2,q2,n2,y2,v2,d2,hl,_⟩:=hl
 obtain⟨g3,t3,c3,f3,p3,q3,n3,y3,v3,d3,hl,_⟩:=hl
 obtain⟨g4,t4,c4,f4,p4,q4,n4,y4,v4,d4,hl,_⟩:=hl
 obtain⟨g5,t5,c5,f5,p5,q5,n5,y5,v5,d5,hl,_⟩:=hl
 obtain⟨g6,t6,c6,f6,p6,q6,n6,y6,v6,d6,hl,_⟩:=hl
 have m3:Tryz.prog.globalNamed "internal/strconv.uint64pow10"=some 0:=by kernel_rfl
 have m5:Tryz.prog.globalNamed "strconv.ErrRange"=some 5:=by kernel_rfl
 have m6:Tryz.prog.globalNamed "strconv.ErrSyntax"=some 4:=by kernel_rfl
 have ty3:∃t e:TypeId,(Tryz.prog.globals[(0:Nat)]?).map (·.type)=some t/\Tryz.prog.underlying t=some (.array 20 e)/\Tryz.prog.underlying e=some (.int .u64)/\Tryz.prog.cellsOf e=1/\Tryz.prog.cellsOf t=20:=⟨223,104,Xg,Xg,Xg,Xg,Xg⟩
 have ty5:∃t ms,(Tryz.prog.globals[(5:Nat)]?).map (·.type)=some t/\Tryz.prog.underlying t=some (.interface ms):=⟨137,_,Xg,Tryz.underlying137⟩
 have ty6:∃t ms,(Tryz.prog.globals[(4:Nat)]?).map (·.type)=some t/\Tryz.prog.underlying t=some (.interface ms):=⟨137,_,Xg,Tryz.underlying137⟩
 obtain rfl:=za4 (m3.symm.trans n3)
 obtain rfl:=za4 (m5.symm.trans n5)
 obtain rfl:=za4 (m6.symm.trans n6)
 have tab:Lib.TabIs Tryz.prog W "internal/strconv.uint64pow10" .u64 Lib.pow10Tab:=by
  obtain⟨t,e,a1,a2,a3,a4,a5⟩:=ty3
  obtain rfl:=za4 (a1.symm.trans y3)
  have hd:Rows.laid_internal_strconv_uint64pow10=(Lib.tabData .u64 Lib.pow10Tab:DataW Unit):=by kernel_rfl
  rw[hd]at d3
  unfold Lib.TabIs
  rw[v3,<- Lib.cells_of_tab a2 a3 a4 a5 d3]
 have err:∀(g:Nat) (nm:String) (c:Array Value) (t:TypeId) (ms:Array (String×TypeId)) (f:Nat) (p:List MemPlace) (name:String) (d:DataW Unit),Tryz.prog.globalNamed nm=some g->Tryz.prog.underlying t=some (.interface ms)->W.var? Tryz.prog nm=some c ->
   DataW.trod (fun _=>()) Tryz.prog W 0 (fun _=>true) false f t c.toList=some (.iface name d,p)->∃t p,W.cell? ⟨g,0,none⟩=some (.iface t p):=by
  intro g nm c t ms f p name d hn ht hv hd
  obtain⟨_,u,v,hc,_⟩:=iface_of_trod ht hd
  have:c=#[.iface u v]:=by apply zaO;simpa using hc
  subst this
  exact⟨u,v,by have:=World.var?_cell hn hv 0;simpa using this⟩
 have big:∀nm g c,Tryz.prog.globalNamed nm=some g->W.var? Tryz.prog nm=some c->g<W.heap.size:=by
  intro nm g c hn hv
  unfold World.var? at hv
  rw[hn]at hv
  simp only[Option.bind_some]at hv
  split at hv
  ·rename_i e;exact(Array.getElem?_eq_some_iff.1 e).1
  ·cases hv
 refine⟨tab,fun j=>big _ _ _ m3 v3,?_,fun j=>big _ _ _ m6 v6,?_,fun j=>big _ _ _ m5 v5⟩
 ·obtain⟨t,ms,a1,a2⟩:=ty6
  obtain rfl:=za4 (a1.symm.trans y6)
  exact err _ _ _ _ _ _ _ _ _ m6 a2 v6 d6
 ·obtain⟨t,ms,a1,a2⟩:=ty5
  obtain rfl:=za4 (a1.symm.trans y5)
  exact err _ _ _ _ _ _ _ _ _ m5 a2 v5 d5
end Go.Proofs.YtdfgoekdlmkdfaaGreatDoor
