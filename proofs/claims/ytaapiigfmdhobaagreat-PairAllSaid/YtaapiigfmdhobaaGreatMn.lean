/- Texts of the walk, joined: Ly Hs H9. -/
import Derived.Shelf.SlicesE.Clone
import Derived.Shelf.SlSortCmp.WholeK
import Derived.Ground.SlsfProg
import Derived.Test.YtaapiigfmdhobaaGreatProg
import Derived.Test.YtaapiigfmdhobaaGreatChecked
import Derived.Test.YtaapiigfmdhobaaGreatMk
import Derived.Lib.RowBridge
import Derived.Test.YtaapiigfmdhobaaGreatMl
import Derived.Test.YtaapiigfmdhobaaGreatMj
import Derived.Test.YtaapiigfmdhobaaGreatMf
namespace Go.Proofs.YtaapiigfmdhobaaGreat
set_option linter.unusedSimpArgs false
set_option linter.unusedVariables false
open Go.Shelf
def ZmP:Go.Shelf.Ren:=⟨fun|6=>137|15=>161|14=>160|28=>179|29=>180|20=>171|21=>172|22=>173|23=>174|24=>175|25=>176|26=>177|27=>178|46=>181|47=>182|48=>183|49=>184|50=>185|57=>186|n=>n,fun|22=>173|24=>176|25=>224|3=>3|39=>220|0=>0|53=>258|55=>260|4=>4|46=>252|45=>251|50=>172|5=>5|9=>9|66=>261|70=>265|76=>267|77=>268|n=>n,fun|n=>n⟩
theorem sortG:Go.Proofs.SlLaysF0.n6 Tryz.prog ZmP:={
 mixed:=by kernel_rfl
 f6:=⟨Tryz.f137.name,by decide,Tryz.func137.trans (congrArg some (by kernel_rfl))⟩
 f14:=⟨Tryz.f160.name,by decide,Tryz.func160.trans (congrArg some (by kernel_rfl))⟩
 f15:=Tryz.func161.trans (congrArg some (by kernel_rfl))
 f20:=⟨Tryz.f171.name,by decide,Tryz.func171.trans (congrArg some (by kernel_rfl))⟩
 f21:=⟨Tryz.f172.name,by decide,Tryz.func172.trans (congrArg some (by kernel_rfl))⟩
 f22:=⟨Tryz.f173.name,by decide,Tryz.func173.trans (congrArg some (by kernel_rfl))⟩
 f23:=⟨Tryz.f174.name,by decide,Tryz.func174.trans (congrArg some (by kernel_rfl))⟩
 f24:=⟨Tryz.f175.name,by decide,Tryz.func175.trans (congrArg some (by kernel_rfl))⟩
 f25:=⟨Tryz.f176.name,by decide,Tryz.func176.trans (congrArg some (by kernel_rfl))⟩
 f26:=⟨Tryz.f177.name,by decide,Tryz.func177.trans (congrArg some (by kernel_rfl))⟩
 f27:=⟨Tryz.f178.name,by decide,Tryz.func178.trans (congrArg some (by kernel_rfl))⟩
 f28:=Tryz.func179.trans (congrArg some (by kernel_rfl))
 f29:=Tryz.func180.trans (congrArg some (by kernel_rfl))
 f46:=⟨Tryz.f181.name,by decide,Tryz.func181.trans (congrArg some (by kernel_rfl))⟩
 f47:=Tryz.func182.trans (congrArg some (by kernel_rfl))
 f48:=Tryz.func183.trans (congrArg some (by kernel_rfl))
 f49:=⟨Tryz.f184.name,by decide,Tryz.func184.trans (congrArg some (by kernel_rfl))⟩
 f50:=⟨Tryz.f185.name,by decide,Tryz.func185.trans (congrArg some (by kernel_rfl))⟩
 f57:=⟨Tryz.f186.name,by decide,Tryz.func186.trans (congrArg some (by kernel_rfl))⟩
 t0:=Tryz.underlying0
 a0:=Tryz.isAgg0
 z0:=Tryz.sizeOf0
 v0:=Tryz.zeroValue0
 t3:=Tryz.underlying3
 a3:=Tryz.isAgg3
 z3:=Tryz.sizeOf3
 v3:=Tryz.zeroValue3
 t4:=Tryz.underlying4
 a4:=Tryz.isAgg4
 z4:=Tryz.sizeOf4
 v4:=Tryz.zeroValue4
 t5:=Tryz.underlying5
 a5:=Tryz.isAgg5
 z5:=Tryz.sizeOf5
 v5:=Tryz.zeroValue5
 t9:=Tryz.underlying9
 a9:=Tryz.isAgg9
 z9:=Tryz.sizeOf9
 v9:=Tryz.zeroValue9
 t22:=Tryz.underlying173
 a22:=Tryz.isAgg173
 z22:=Tryz.sizeOf173
 v22:=Tryz.zeroValue173
 t25:=Tryz.underlying224
 a25:=Tryz.isAgg224
 z25:=Tryz.sizeOf224
 v25:=Tryz.zeroValue224
 t39:=Tryz.underlying220
 a39:=Tryz.isAgg220
 z39:=Tryz.sizeOf220
 v39:=Tryz.zeroValue220
 t45:=Tryz.underlying251
 a45:=Tryz.isAgg251
 z45:=Tryz.sizeOf251
 v45:=Tryz.zeroValue251
 t46:=Tryz.underlying252
 a46:=Tryz.isAgg252
 z46:=Tryz.sizeOf252
 v46:=Tryz.zeroValue252
 t50:=Tryz.underlying172
 a50:=Tryz.isAgg172
 z50:=Tryz.sizeOf172
 v50:=Tryz.zeroValue172
 t53:=Tryz.underlying258
 a53:=Tryz.isAgg258
 z53:=Tryz.sizeOf258
 v53:=Tryz.zeroValue258
 t55:=Tryz.underlying260
 a55:=Tryz.isAgg260
 z55:=Tryz.sizeOf260
 v55:=Tryz.zeroValue260
 t66:=Tryz.underlying261
 a66:=Tryz.isAgg261
 z66:=Tryz.sizeOf261
 v66:=Tryz.zeroValue261
 t70:=Tryz.underlying265
 a70:=Tryz.isAgg265
 z70:=Tryz.sizeOf265
 v70:=Tryz.zeroValue265
 t76:=Tryz.underlying267
 a76:=Tryz.isAgg267
 z76:=Tryz.sizeOf267
 v76:=Tryz.zeroValue267
 t77:=Tryz.underlying268
 a77:=Tryz.isAgg268
 z77:=Tryz.sizeOf268
 v77:=Tryz.zeroValue268 }
open Go.RowKit Go.Shelf Go.Sort
theorem Zlw (x:Int) (W:World):Calls Tryz.prog 162 #[.int .i64 x] W fun e w'=>e=.returned (.bool false)/\w'=W:=by
 go_enter Tryz.func162,Tryz.ntmps162
 go_wp2
 go_ret
 exact⟨by simp,rfl⟩
set_option maxHeartbeats 1000000 in
theorem Zmz (x y:Int) (W:World):Calls Tryz.prog 139 #[.int .i64 x,.int .i64 y] W fun e w'=>e=.returned (.int .i64 (Zgz x y))/\w'=W:=by
 have hn:=fun x W=>Zlw x W
 unfold Zgz
 by_cases h1:x<y
 ·rw[if_pos h1]
  go_enter Tryz.func139,Tryz.ntmps139
  go_wp2_with (go_at_call 162;refine(hn _ _).mono ?_;rintro e w' ⟨rfl,rfl⟩)
  go_ret
  exact⟨rfl,rfl⟩
 ·rw[if_neg h1]
  by_cases h2:x > y
  ·rw[if_pos h2]
   go_enter Tryz.func139,Tryz.ntmps139
   go_wp2_with (go_at_call 162;refine(hn _ _).mono ?_;rintro e w' ⟨rfl,rfl⟩)
   go_ret
   exact⟨rfl,rfl⟩
  ·rw[if_neg h2]
   go_enter Tryz.func139,Tryz.ntmps139
   go_wp2_with (go_at_call 162;refine(hn _ _).mono ?_;rintro e w' ⟨rfl,rfl⟩)
   go_ret
   exact⟨rfl,rfl⟩
def One:Type:={ v:Value // v.oneCell'=true }
abbrev EG:=Int×One
instance:Inhabited EG:=⟨(0,⟨.int .i64 0,rfl⟩)⟩
def Zhm (x:EG):List Value:=[.int .i64 x.1,x.2.1]
def cfG (x y:EG):Int:=Zgz x.1 y.1
set_option maxHeartbeats 1000000 in
theorem Zkz (x y:EG) (W:World):Calls Tryz.prog 138 #[.agg #[.int .i64 x.1,x.2.1],.agg #[.int .i64 y.1,y.2.1]] W fun e w'=>e=.returned (.int .i64 (cfG x y))/\∃q os',w'=grow (W.drewN q) os':=by
 have hcon:=fun W'=>Zmz x.1 y.1 W'
 unfold cfG
 generalize Zgz x.1 y.1=r at hcon ⊢
 obtain⟨a,⟨v,hv⟩⟩:=x
 obtain⟨b,⟨u,hu⟩⟩:=y
 go_enter Tryz.func138,Tryz.ntmps138
 go_wp2_with (go_at_call 139;refine(hcon _).mono ?_;rintro e w' ⟨rfl,rfl⟩)
 go_ret
 exact⟨rfl,0,_,by rw[alloc_eq_grow,alloc_eq_grow,grow_grow];rfl⟩
theorem Zj9 (x y:EG):ltOf cfG x y=decide (x.1<y.1):=by
 unfold ltOf cfG Zgz
 by_cases h1:x.1<y.1
 ·simp[h1]
 ·by_cases h2:x.1 > y.1<;>simp[h1,h2]
theorem swoG:SWO (ltOf cfG) where
 irrefl x:=by rw[Zj9];simp
 trans x y z h1 h2:=by rw[Zj9]at *;simp at *;omega
 ntrans x y z h1 h2:=by rw[Zj9]at *;simp at *;omega
inductive ZeK {α β:Type} (R:α->β->Prop):List α->List β->Prop
 | nil:ZeK R [] []
 | cons {a:α} {b:β} {l:List α} {m:List β} (h:R a b) (t:ZeK R l m):ZeK R (a :: l) (b :: m)
theorem ZeK.length {α β:Type} {R:α->β->Prop} {l:List α} {m:List β} (h:ZeK R l m):l.length=m.length:=by
 induction h with
 | nil=>rfl
 | cons _ _ ih=>simp[ih]
theorem ZeK.imp {α β:Type} {R S:α->β->Prop} (hi:∀a b,R a b->S a b) {l:List α} {m:List β} (h:ZeK R l m):ZeK S l m:=by
 induction h with
 | nil=>exact .nil
 | cons h _ ih=>exact .cons (hi _ _ h) ih
theorem ZeK.get {α β:Type} {R:α->β->Prop}:∀{l:List α} {m:List β},ZeK R l m->∀i (hi:i<l.length),∃h:i<m.length,R l[i] m[i]
 | _,_,.cons h _,0,_=>⟨by simp,h⟩
 | _,_,.cons _ t,i+1,hi=>by
  obtain⟨h1,h2⟩:=ZeK.get t i (by simpa using hi)
  exact⟨by simpa using h1,by simpa using h2⟩
theorem Zif {α β:Type} {R:α->β->Prop} {z z':List β} (h:z.Perm z'):∀{g:List α},ZeK R g z->∃g',g.Perm g'/\ZeK R g' z':=by
 induction h with
 | nil=>intro g hg;exact⟨g,.refl _,hg⟩
 | cons x _ ih =>
  intro g hg
  cases hg with
  | cons h t =>
   obtain⟨g',h1,h2⟩:=ih t
   exact⟨_,h1.cons _,.cons h h2⟩
 | swap x y l =>
  intro g hg
  cases hg with
  | cons h t =>
   cases t with
   | cons h2 t2=>exact⟨_,.swap _ _ _,.cons h2 (.cons h t2)⟩
 | trans _ _ ih1 ih2 =>
  intro g hg
  obtain⟨g1,h1,h2⟩:=ih1 hg
  obtain⟨g2,h3,h4⟩:=ih2 h2
  exact⟨g2,h1.trans h3,h4⟩
abbrev PG:=Int×AV
abbrev flG (gs:List PG):List AV:=gs.flatMap fun p=>[.i p.1,p.2]
abbrev flV (zs:List EG):List Value:=zs.flatMap Zhm
section
variable {g:Gh} {H:Zaa} {w:World}
def RelG (g:Gh) (w:World) (p:PG) (z:EG):Prop:=z.1=p.1/\VR g w p.2 z.2.1
theorem Zmt:∀{gs:List PG} {tail:List AV} {L:List Value},(∀p∈gs,p.2.one=true)->VRs g w (flG gs++tail) L->∃zs rest,L=flV zs++rest/\ZeK (RelG g w) gs zs/\VRs g w tail rest
 | [],tail,L,_,h=>⟨[],L,rfl,.nil,h⟩
 | p :: gs,tail,L,ho,h=>by
  match L,h with
  | [],h=>have:=h.1;simp at this
  | [a],h=>have:=h.1;simp at this
  | a :: v :: L',h =>
   have h0:=h.2 0 _ _ rfl rfl
   have h1:=h.2 1 _ _ rfl rfl
   have h0:VR g w (.i p.1) a:=h0
   have h1:VR g w p.2 v:=h1
   cases h0
   have hv:v.oneCell'=true:=h1.one (ho p zah)
   have ht:VRs g w (flG gs++tail) L':=⟨by have:=h.1;simp at this ⊢;omega,fun i x u hx hu=>h.2 (i+2) x u (by simpa using hx) (by simpa using hu)⟩
   obtain⟨zs,rest,e1,e2,e3⟩:=Zmt (fun q hq=>ho q (zae _ hq)) ht
   exact⟨(p.1,⟨v,hv⟩) :: zs,rest,by rw[e1];rfl,.cons ⟨rfl,h1⟩ e2,e3⟩
theorem join_G:∀{gs:List PG} {zs:List EG} {tail:List AV} {rest:List Value},ZeK (RelG g w) gs zs->VRs g w tail rest->VRs g w (flG gs++tail) (flV zs++rest)
 | _,_,_,_,.nil,h=>h
 | _,_,_,_,.cons (a:=p) (b:=z) h t,hr=>by
  have ih:=join_G t hr
  obtain⟨z1,z2⟩:=z
  obtain⟨h1,h2⟩:=h
  simp only at h1
  subst h1
  exact(ih.cons h2).cons (.sc _)
theorem Zlk:∀(zs:List EG) (t:Nat),t<zs.length * 2->(flV zs)[t]?=some ((Zhm zs.toArray[t / 2]!)[t % 2]!)
 | [],t,h=>by simp at h
 | z :: zs,0,_=>rfl
 | z :: zs,1,_=>rfl
 | z :: zs,t+2,h=>by
  have ih:=Zlk zs t (by simp at h;omega)
  have e1:(t+2) / 2=t / 2+1:=by omega
  have e2:(t+2) % 2=t % 2:=by omega
  have hl:t / 2<zs.length:=by simp at h;omega
  rw[e1,e2]
  show(z.1 |> fun _=>(Zhm z++flV zs))[t+2]?=_
  rw[show(Zhm z++flV zs)[t+2]?=(flV zs)[t]? from rfl,ih]
  congr 3
  simp[hl]
theorem Zix (zs:List EG):(flV zs).length=zs.length * 2:=by
 induction zs with
 | nil=>rfl
 | cons z zs ih=>rw[flV,zbz,zak,show(zs.flatMap Zhm).length=_ from ih,List.length_cons];simp[Zhm];omega
theorem ZjG (zs:List EG):flatK Zhm 2 zs.toArray=(flV zs).toArray:=by
 refine Array.ext (by rw[size_flatK,List.size_toArray,List.size_toArray,Zix]) fun t h1 h2=>?_
 have ht:t<zs.length * 2:=by simpa using h1
 have e:=Zlk zs t ht
 have e2:t<(flV zs).length:=by rw[Zix];exact ht
 rw[zab e2]at e
 injection e with e
 have e3:=get_flatK Zhm 2 zs.toArray t (by simpa using ht)
 rw[getElem!_pos _ t h1]at e3
 rw[e3,← e]
 simp
theorem ZlT {w:World} {b:Nat} {f:Array Value->Array Value} {c:Array Value} {E:TypeId} {fr:Nat×Nat} (h:w.heap[b]?=some (.cells c E fr)):(mapBlock w b f).heap[b]?=some (.cells (f c) E fr):=by
 unfold mapBlock
 simp only[Array.getElem?_modify,if_true,h,Option.map_some,onCells]
theorem Zhv {w:World} {b b':Nat} {f:Array Value->Array Value} (h:b'≠b):(mapBlock w b f).heap[b']?=w.heap[b']?:=by
 unfold mapBlock
 simp only[Array.getElem?_modify]
 rw[if_neg (fun e=>h e.symm)]
theorem Zkp (hW:WR g H w):∀(l:List Obj),∃g',WR g' H (grow w l.toArray)/\Stp g H w g' H (grow w l.toArray):=by
 intro l
 induction l generalizing g w with
 | nil=>exact⟨g,by rw[show([]:List Obj).toArray=#[]from rfl,grow_empty];exact hW,by rw[show([]:List Obj).toArray=#[]from rfl,grow_empty];exact .refl _ _ _⟩
 | cons o l ih =>
  obtain⟨h1,h2⟩:=ZgV hW o
  obtain⟨g',h3,h4⟩:=ih h1
  have e:grow w (o :: l).toArray=grow (w.alloc o) l.toArray:=by
   rw[alloc_eq_grow,grow_grow]
   congr 1
   simp
  rw[e]
  exact⟨g',h3,h2.trans h4⟩
theorem Zg4 (F c:Array Value) (L rest:List Value) (hc:c.toList=L++rest) (hl:L.length=F.size):(putCells (id:Value->Value) 0 F c).toList=F.toList++rest:=by
 apply zbT
 intro i
 have hc2:∀j:Nat,c[j]?=(L++rest)[j]?:=fun j=>by rw[← hc];simp
 simp only[putCells,Array.getElem?_toList,Array.getElem?_mapIdx,zaG,true_and,zay,Nat.sub_zero,hc2]
 by_cases hi:i<F.size
 ·rw[zaJ (by omega),zaJ (by simpa using hi),zab (by omega)]
  simp[hi]
 ·rw[zaV (by omega),zaV (by simp;omega),hl]
  simp only[Array.length_toList]
  cases rest[i - F.size]? with
  | none=>rfl
  | some y=>simp[hi]
theorem Zmv {g:Gh} {w:World}:∀{gs:List PG} {zs:List EG},ZeK (RelG g w) gs zs->(∀i j:Nat,i<j->∀hj:j<zs.length,(zs[i]!).1<=(zs[j]).1)->gs.Pairwise fun p q=>p.1<=q.1
 | _,_,.nil,_=>.nil
 | _,_,.cons (a:=p) (b:=z) (l:=l) (m:=m) h t,hs=>by
  refine .cons (fun q hq=>?_) (Zmv t fun i j hij hj=>?_)
  ·obtain⟨i,hi,rfl⟩:=List.mem_iff_getElem.1 hq
   obtain⟨h1,h2⟩:=ZeK.get t i hi
   have:=hs 0 (i+1) (by omega) (by simp;exact h1)
   simp at this
   rw[← h.1,← h2.1]
   exact this
  ·have:=hs (i+1) (j+1) (by omega) (by simp;exact hj)
   simpa using this
theorem Zhr:Zmq Tryz.prog 137:=⟨_,Tryz.func137,by kernel_rfl,by kernel_rfl⟩
theorem Zi4 {oid cap:Nat} {E:TypeId} {gs:List PG} {tail:List AV} {H:Zaa} (hget:H.get oid=some (.cells (flG gs++tail) E)) (hone:∀p∈gs,p.2.one=true) (hn:gs.length<4611686018427387904) :
  Zay Tryz.prog 137 [.arr oid 0 gs.length cap,.fn 138 [] []] H fun r H'=>r=.tup []/\∃gs',gs.Perm gs'/\gs'.Pairwise (fun p q=>p.1<=q.1)/\H'=H.set oid (.cells (flG gs'++tail) E):=by
 refine⟨Zhr,fun g w vs hW hV=>?_⟩
 obtain⟨v0,v1,rfl⟩:∃v0 v1,vs=[v0,v1]:=by
  match vs,hV.1 with
  | [v0,v1],_=>exact⟨v0,v1,rfl⟩
 have h1:=hV.2 0 _ _ rfl rfl
 have h2:=hV.2 1 _ _ rfl rfl
 cases h2 with
 | fn _ _ _ vf vc hl1 hl2 _ _ =>
 have hvf:vf=#[]:=Array.eq_empty_of_size_eq_zero hl1.symm
 have hvc:vc=#[]:=Array.eq_empty_of_size_eq_zero hl2.symm
 subst hvf hvc
 cases h1 with
 | arr _ _ _ _ b hb hc hm =>
  obtain⟨b',carr,k1,k2,k3,k4,k5⟩:=hW.obj oid _ hget
  obtain rfl:b'=b:=zbR (k1.symm.trans hb)
  have hlt:b'<w.heap.size:=(zaK.1 k2).1
  obtain⟨zs,rest,e1,e2,e3⟩:=Zmt hone k3
  have hzl:=e2.length
  have hH:HoldsK Zhm 2 w b' 0 zs.toArray:=by
   unfold HoldsK
   rw[ZjG]
   intro j hj
   have hj':j<(flV zs).length:=by simpa using hj
   have hcj:carr[j]?=some (flV zs)[j]:=by
    have:carr.toList[j]?=some (flV zs)[j]:=by rw[e1,zaJ hj',zab hj']
    simpa using this
   refine⟨?_,?_⟩
   ·unfold World.cell?
    simp only[zay,k2]
    rw[hcj]
    simp[zab hj']
   ·unfold World.frozen?
    simp[k2]
  have eg:∀args w,(callFunc 138 args).run Tryz.prog w=.ok (.enter 138 args) w:=enters_of Tryz.func138 (by kernel_rfl) rfl
  have hcmp:CmpLays Tryz.prog 138 #[] Zhm 2 cfG b' 0 zs.toArray.size w:=fun _ _ _ _ x y=>Zkz x y _
  have hcon:=AnyQ.slices_SortFunc sortG 2 Tryz.isAgg176 Tryz.sizeOf176 Zhm (fun _=>rfl) (fun x v hv=>by
   simp[Zhm]at hv
   rcases hv with rfl|rfl
   ·rfl
   ·exact x.2.2) cfG swoG 138 #[] b' 0 cap zs.toArray w eg hcmp hH hlt (by simpa [← hzl] using hn)
  have hargs:([Value.slice (some ⟨b',0,none⟩) gs.length cap,Value.func (.func 138) #[] #[]]:List Value).toArray=#[.slice (some ⟨b',0,none⟩) zs.toArray.size cap,.func (.func 138) #[] #[]]:=by simp[hzl]
  rw[hargs]
  refine hcon.mono fun e w' ⟨he,d',n,os,hp,hs,hw'⟩=>?_
  have hds:d'.size=zs.length:=by simpa using hp.1
  have hperm:d'.toList.Perm zs:=by
   have:=hp.2.2
   rw[Array.extract_eq_self_of_le (by rw[hds];simp)]at this
   rw[Array.extract_eq_self_of_le (by simp)]at this
   simpa using this
  obtain⟨gs',q1,q2⟩:=Zif hperm.symm e2
  have hdl:d'.toList.length=zs.length:=by simpa using hds
  have hrow:flatK Zhm 2 d'=(flV d'.toList).toArray:=by
   have:=ZjG d'.toList
   simpa using this
  have hset:=ZfL (g:=g) (w':=putRow id (Go.Sort.ahead w n) b' 0 (flatK Zhm 2 d')) (o':=.cells (flG gs'++tail) E) hW hget hb (fun _=>zai) (fun b2 hb2=>by unfold putRow;rw[Zhv hb2];rfl) (by simp[putRow,mapBlock,Go.Sort.ahead]) rfl rfl rfl (fun j hj=>absurd hj (k5 j)) (fun hle=>by
   refine⟨b',putCells id 0 (flatK Zhm 2 d') carr,hb,by unfold putRow;exact ZlT k2,?_,fun x hx=>?_,k5⟩
   ·have hcl:=Zg4 (flatK Zhm 2 d') carr (flV zs) rest e1 (by rw[Zix,size_flatK,hds])
    have q3:=q2.imp (S:=RelG _ _) fun p z ⟨h1,h2⟩=>⟨h1,h2.mono hle⟩
    have e4:=e3.mono hle
    rw[hcl,show(flatK Zhm 2 d').toList=flV d'.toList by rw[hrow]]
    exact join_G q3 e4
   ·rcases zaz.1 hx with h|h
    ·obtain⟨p,hp,hxp⟩:=List.mem_flatMap.1 h
     rcases zal.1 hxp with rfl|hxp
     ·rfl
     ·rw[zas.1 hxp]
      exact hone p (q1.mem_iff.2 hp)
    ·exact k4 x (zbp _ h))
  obtain⟨r1,r2⟩:=hset
  obtain⟨g',r3,r4⟩:=Zkp r1 os.toList
  have hwe:w'=grow (putRow id (Go.Sort.ahead w n) b' 0 (flatK Zhm 2 d')) os.toList.toArray:=by
   rw[hw'];simp[sortWorldK,putRowK]
  rw[← hwe]at r3 r4
  refine⟨_,.tup [],_,g',he,⟨rfl,gs',q1,?_,rfl⟩,.tup [] #[] rfl (fun i x u h=>by simp at h),r3,r2.trans r4⟩
  refine Zmv q2 ?_
  intro i j hij hj
  have hj2:j<d'.size:=by simpa using hj
  have h:=hs i j (zaG _) hij (by simp only[zay,List.size_toArray,← hds];exact hj2)
  rw[Zj9]at h
  simpa [getElem!_pos d' i (Nat.lt_trans hij hj2),getElem!_pos d' j hj2,zax (Nat.lt_trans hij hj2)] using h
end
open Go.RowKit
abbrev Grp:=List (Int×(Nat×List Nat))
abbrev eG (p:Nat×List Nat):AV:=.sl (.own p.1) (rP p.2)
abbrev mpG (M:Grp):Zb3:=.map (.one (.int .i64)) (Zgf kI eG M) false
def tokG (M:Grp):List (Nat×Zb3):=M.map fun e=>(e.2.1,.tok e.2.2.length 3 1)
def grs (key:Nat->Int) (n:Nat) (part:List Nat):List (Int×List Nat):=(List.range n).filterMap fun k:Nat=>if part.filter (fun i=>decide (key i=(k:Int)))=[] then none else some ((k:Int),part.filter fun i=>decide (key i=(k:Int)))
theorem Zll:∀{l m:List (Int×List Nat)},l.Pairwise (fun p q=>p.1<q.1)->m.Pairwise (fun p q=>p.1<q.1)->(∀x,x∈l ↔ x∈m)->l=m
 | [],[],_,_,_=>rfl
 | [],b :: m,_,_,h=>absurd ((h b).2 zah) (by simp)
 | a :: l,[],_,_,h=>absurd ((h a).1 zah) (by simp)
 | a :: l,b :: m,hl,hm,h=>by
  have hl':=zba.1 hl
  have hm':=zba.1 hm
  have hab:a=b:=by
   rcases zal.1 ((h a).1 zah)with h1|h1
   ·exact h1
   rcases zal.1 ((h b).2 zah)with h2|h2
   ·exact h2.symm
   have:=hm'.1 a h1
   have:=hl'.1 b h2
   omega
  subst hab
  congr 1
  refine Zll hl'.2 hm'.2 fun x=>⟨fun hx=>?_,fun hx=>?_⟩
  ·rcases zal.1 ((h x).1 (zae _ hx))with h1|h1
   ·subst h1;have:=hl'.1 _ hx;omega
   ·exact h1
  ·rcases zal.1 ((h x).2 (zae _ hx))with h1|h1
   ·subst h1;have:=hm'.1 _ hx;omega
   ·exact h1
def Zkq (key:Nat->Int) (l:List Nat):List (Int×List Nat):=l.foldl (fun M i=>ZbU (key i) ((Zcz (key i) M).getD []++[i]) M) []
theorem Zlt (key:Nat->Int) {l:List Nat} {k:Nat} (h:k<l.length):Zkq key (l.take (k+1))=ZbU (key l[k]) ((Zcz (key l[k]) (Zkq key (l.take k))).getD []++[l[k]]) (Zkq key (l.take k)):=by
 rw[zaq h,Zkq,zbU];rfl
theorem ZgW {K V W:Type} [DecidableEq K] (f:V->W) (k:K):∀M:List (K×V),Zcz k (M.map fun e=>(e.1,f e.2))=(Zcz k M).map f
 | []=>rfl
 | (k',v) :: M=>by
  simp only[zao,Zcz,ZgW f k M]
  split<;>rfl
theorem Zhf {K V W:Type} [DecidableEq K] (f:V->W) (k:K) (v:V):∀M:List (K×V),ZbU k (f v) (M.map fun e=>(e.1,f e.2))=(ZbU k v M).map fun e=>(e.1,f e.2)
 | []=>rfl
 | (k',u) :: M=>by
  have ih:=Zhf f k v M
  simp only[zao,ZbU,ih]
  split<;>rfl
theorem Zeh {K V:Type} [DecidableEq K] {k:K} {v:V}:∀{M:List (K×V)},Zcz k M=some v->(k,v)∈M
 | (k',u) :: M,h=>by
  unfold Zcz at h
  split at h
  ·rename_i e;injection h with h;subst e h;exact zah
  ·exact zae _ (Zeh h)
theorem Ze7 {K V:Type} [DecidableEq K] {k:K} {v:V}:∀{M:List (K×V)} {e:K×V},(M.map (·.1)).Nodup->e∈ZbU k v M->e=(k,v)∨(e∈M/\e.1≠k)
 | [],e,_,h=>by simp[ZbU]at h;exact .inl h
 | (k',u) :: M,e,hn,h=>by
  simp only[zao,zbG]at hn
  unfold ZbU at h
  split at h
  ·rename_i hk
   subst hk
   rcases zal.1 h with rfl|h
   ·exact .inl rfl
   ·refine .inr ⟨zae _ h,fun he=>hn.1 ?_⟩
    rw[← he]
    exact zau.2 ⟨e,h,rfl⟩
  ·rename_i hk
   rcases zal.1 h with rfl|h
   ·exact .inr ⟨zah,fun he=>hk he.symm⟩
   ·rcases Ze7 hn.2 h with h|⟨h1,h2⟩
    ·exact .inl h
    ·exact .inr ⟨zae _ h1,h2⟩
theorem ZfE {K V:Type} [DecidableEq K] {k:K} {v:V}:∀{M:List (K×V)},(M.map (·.1)).Nodup->((ZbU k v M).map (·.1)).Nodup
 | [],_=>by simp[ZbU]
 | (k',u) :: M,hn=>by
  simp only[zao,zbG]at hn
  unfold ZbU
  split
  ·rename_i hk;subst hk;simpa using hn
  ·rename_i hk
   simp only[zao,zbG]
   refine⟨fun hm=>?_,ZfE hn.2⟩
   obtain⟨e,he,h1⟩:=zau.1 hm
   rcases Ze7 hn.2 he with rfl|⟨h2,_⟩
   ·exact hk h1
   ·exact hn.1 (zau.2 ⟨e,h2,h1⟩)
structure GrpI (M:Grp) (b:Nat):Prop where
 keys:(M.map (·.1)).Nodup
 toks:(M.map (·.2.1)).Nodup
 lo:∀e∈M,b<=e.2.1
theorem grp_tok {M:Grp} (h:(M.map (·.2.1)).Nodup) {e f:Int×(Nat×List Nat)} (he:e∈M) (hf:f∈M) (ht:e.2.1=f.2.1):e=f:=by
 induction M with
 | nil=>cases he
 | cons x M ih =>
  simp only[zao,zbG]at h
  rcases zal.1 he with he1|he1<;>rcases zal.1 hf with hf1|hf1
  ·rw[he1,hf1]
  ·exact(h.1 (zau.2 ⟨f,hf1,by rw[← he1];exact ht.symm⟩)).elim
  ·exact(h.1 (zau.2 ⟨e,he1,by rw[← hf1];exact ht⟩)).elim
  ·exact ih h.2 he1 hf1
theorem ZhZ {k:Int} {t:Nat} {p q:List Nat}:∀{M:Grp},Zcz k M=some (t,p)->(ZbU k (t,q) M).map (·.2.1)=M.map (·.2.1)
 | (k',u) :: M,h=>by
  unfold Zcz at h
  unfold ZbU
  split at h
  ·rename_i e;injection h with h;subst e h;simp
  ·rename_i hk;rw[if_neg hk,zao,zao,ZhZ (M:=M) h]
theorem Zj6 {K V:Type} [DecidableEq K] {k:K} {v:V}:∀{M:List (K×V)},Zcz k M=none->ZbU k v M=M++[(k,v)]
 | [],_=>rfl
 | (k',u) :: M,h=>by
  unfold Zcz at h
  unfold ZbU
  split at h
  ·cases h
  ·rename_i hk;rw[if_neg hk,Zj6 h];rfl
theorem Zco {K V:Type} [DecidableEq K] {k:K} {v:V}:∀{M:List (K×V)},(M.map (·.1)).Nodup->(k,v)∈M->Zcz k M=some v
 | (k',u) :: M,hn,h=>by
  simp only[zao,zbG]at hn
  unfold Zcz
  rcases zal.1 h with h|h
  ·injection h with h1 h2;rw[if_pos h1,h2]
  ·have hne:k≠k':=fun e=>hn.1 (by rw[← e];exact zau.2 ⟨_,h,rfl⟩)
   rw[if_neg hne,Zco hn.2 h]
theorem Zir {K V:Type} [DecidableEq K] {k:K} {v:V} {e:K×V} (hne:e.1≠k):∀{M:List (K×V)},e∈M->e∈ZbU k v M
 | (k',u) :: M,h=>by
  unfold ZbU
  split
  ·rename_i hk
   rcases zal.1 h with rfl|h
   ·exact absurd hk.symm hne
   ·exact zae _ h
  ·rcases zal.1 h with rfl|h
   ·exact zah
   ·exact zae _ (Zir hne h)
theorem GrpI.new {M:Grp} {mid b:Nat} {k:Int} {i:Nat} {H1 G:Zaa} (hI:GrpI M b) (hG:HX ((mid,mpG M) :: tokG M) H1 G) (hb:b<=G.next) (hm:mid<b) (hn:Zcz k M=none) :
  GrpI (ZbU k (G.next,[i]) M) b/\HX ((mid,mpG (ZbU k (G.next,[i]) M)) :: tokG (ZbU k (G.next,[i]) M)) H1 ((G.alloc (.tok 1 3 1)).set mid (mpG (ZbU k (G.next,[i]) M))):=by
 have htk:∀e∈M,G.get e.2.1=some (.tok e.2.2.length 3 1):=fun e he=>hG.o (e.2.1,_) (zae _ (zau.2 ⟨e,he,rfl⟩))
 have hmg:=Zaa.lt hG.o1
 have hkk:=ZfE (k:=k) (v:=(G.next,[i])) hI.keys
 rw[Zj6 hn]at hkk ⊢
 refine⟨⟨hkk,?_,fun e he=>?_⟩,zaQ hG.n (by simp only[nx];omega),fun p hp=>?_,fun j hj hne=>?_⟩
 ·rw[za9,List.nodup_append]
  refine⟨hI.toks,by simp,fun a ha c hc hac=>?_⟩
  obtain⟨e,he,rfl⟩:=zau.1 ha
  have:=Zaa.lt (htk e he)
  simp at hc
  omega
 ·rcases zaz.1 he with he|he
  ·exact hI.lo e he
  ·rw[zas.1 he];exact hb
 ·rcases zal.1 hp with rfl|hp
  ·exact Zaa.Zal (by simp only[nx];omega)
  ·obtain⟨e,he,rfl⟩:=zau.1 hp
   rcases zaz.1 he with he|he
   ·have h1:=hI.lo e he
    have h2:=Zaa.lt (htk e he)
    rw[Zaa.Zah (by simp only;omega),Zaa.Zag (by simp only;omega)]
    exact htk e he
   ·rw[zas.1 he]
    rw[Zaa.Zah (by simp only;omega)]
    exact Zaa.Zae (H:=G)
 ·have h3:HX ((mid,mpG M) :: tokG M) H1 G:=hG
  rw[zbj]at hne
  have hm':j≠mid:=fun e=>by have:=hne (mid,_) zah;simp[e]at this
  rw[Zaa.Zah hm',Zaa.Zag (by have:=hG.n;omega)]
  refine hG.g j hj ?_
  rw[zbj]
  intro p hp
  rcases zal.1 hp with rfl|hp
  ·simp;exact fun e=>hm' e.symm
  ·obtain⟨e,he,rfl⟩:=zau.1 hp
   have:=hne (e.2.1,.tok e.2.2.length 3 1) (zae _ (zau.2 ⟨e,zbw _ he,rfl⟩))
   exact this
theorem GrpI.old {M:Grp} {mid b tk:Nat} {k:Int} {p:List Nat} {i:Nat} {H1 G:Zaa} (hI:GrpI M b) (hG:HX ((mid,mpG M) :: tokG M) H1 G) (hm:mid<b) (hn:Zcz k M=some (tk,p)) :
  GrpI (ZbU k (tk,p++[i]) M) b/\HX ((mid,mpG (ZbU k (tk,p++[i]) M)) :: tokG (ZbU k (tk,p++[i]) M)) H1 ((G.set tk (.tok (p.length+1) 3 1)).set mid (mpG (ZbU k (tk,p++[i]) M))):=by
 have htk:∀e∈M,G.get e.2.1=some (.tok e.2.2.length 3 1):=fun e he=>hG.o (e.2.1,_) (zae _ (zau.2 ⟨e,he,rfl⟩))
 have hmg:=Zaa.lt hG.o1
 have hmem:=Zeh hn
 have htt:=htk _ hmem
 have hlt:=Zaa.lt htt
 have hlo:=hI.lo _ hmem
 simp only at htt hlt hlo
 refine⟨⟨ZfE hI.keys,by rw[ZhZ hn];exact hI.toks,fun e he=>?_⟩,zaQ hG.n (by simp only[nx];omega),fun q hq=>?_,fun j hj hne=>?_⟩
 ·rcases Ze7 hI.keys he with rfl|⟨he,_⟩
  ·exact hlo
  ·exact hI.lo e he
 ·rcases zal.1 hq with rfl|hq
  ·exact Zaa.Zal (by simp only[nx];omega)
  ·obtain⟨e,he,rfl⟩:=zau.1 hq
   rcases Ze7 hI.keys he with rfl|⟨he,hne⟩
   ·rw[Zaa.Zah (by simp only;omega),Zaa.Zal hlt]
    simp
   ·have h1:=hI.lo e he
    have h2:e.2.1≠tk:=fun h=>hne (by rw[grp_tok hI.toks he hmem h])
    rw[Zaa.Zah (by simp only;omega),Zaa.Zah h2]
    exact htk e he
 ·rw[zbj]at hne
  have hm':j≠mid:=fun e=>by have:=hne (mid,_) zah;simp[e]at this
  have htj:j≠tk:=fun e=>by
   have hmm:(tk,Zb3.tok (p.length+1) 3 1)∈tokG (ZbU k (tk,p++[i]) M):=by
    have:=Zeh (ZdP k (tk,p++[i]) M)
    exact zau.2 ⟨_,this,by simp⟩
   have:=hne _ (zae _ hmm)
   simp[e]at this
  rw[Zaa.Zah hm',Zaa.Zah htj]
  refine hG.g j hj ?_
  rw[zbj]
  intro q hq
  rcases zal.1 hq with rfl|hq
  ·simp;exact fun e=>hm' e.symm
  ·obtain⟨e,he,rfl⟩:=zau.1 hq
   by_cases hek:e.2.1=tk
   ·simp;exact fun h=>htj (h.symm.trans hek)
   ·have hmm:e∈ZbU k (tk,p++[i]) M:=by
     have hne2:e.1≠k:=fun h=>hek (by
      obtain⟨e1,e2,e3⟩:=e
      simp only at h
      subst h
      have:=Zco hI.keys he
      rw[hn]at this
      injection this with this
      injection this with this _
      exact this.symm)
     exact Zir hne2 he
    exact hne (e.2.1,.tok e.2.2.length 3 1) (zae _ (zau.2 ⟨e,hmm,rfl⟩))
theorem ZjO (key:Nat->Int) (k:Int):∀(l:List Nat) (M:List (Int×List Nat)),Zcz k (l.foldl (fun M i=>ZbU (key i) ((Zcz (key i) M).getD []++[i]) M) M)=if Zcz k M=none/\l.filter (fun i=>decide (key i=k))=[] then none else some ((Zcz k M).getD []++l.filter fun i=>decide (key i=k))
 | [],M=>by
  cases h:Zcz k M<;>simp[h]
 | i :: l,M=>by
  rw[List.foldl_cons,ZjO key k l,Zeg]
  by_cases e:k=key i
  ·subst e
   simp
  ·have e2:¬key i=k:=fun h=>e h.symm
   rw[if_neg e,List.filter_cons_of_neg (by simpa using e2)]
theorem Zhl (key:Nat->Int) (k:Int) (l:List Nat):Zcz k (Zkq key l)=if l.filter (fun i=>decide (key i=k))=[] then none else some (l.filter fun i=>decide (key i=k)):=by
 have:=ZjO key k l []
 simpa [Zcz,Zkq] using this
theorem grpA_len {key:Nat->Int} {k:Int} {l:List Nat} {p:List Nat} (h:Zcz k (Zkq key l)=some p):p.length<=l.length:=by
 rw[Zhl]at h
 split at h
 ·cases h
 ·injection h with h;rw[← h];exact List.length_filter_le _ _
theorem Zjb (key:Nat->Int) (l:List Nat):(Zkq key l).length<=l.length:=by
 suffices ∀(l:List Nat) (M:List (Int×List Nat)),(l.foldl (fun M i=>ZbU (key i) ((Zcz (key i) M).getD []++[i]) M) M).length<=M.length+l.length from by simpa [Zkq] using this l []
 intro l
 induction l with
 | nil=>intro M;simp
 | cons a r ih =>
  intro M
  rw[List.foldl_cons]
  have h1:=ih (ZbU (key a) ((Zcz (key a) M).getD []++[a]) M)
  have h2:=ZmZ (key a) ((Zcz (key a) M).getD []++[a]) M
  simp only[List.length_cons]
  omega
theorem grs_mem {key:Nat->Int} {n:Nat} {part:List Nat} (hk:∀i∈part,0<=key i/\key i<n) (x:Int×List Nat):x∈grs key n part ↔ Zcz x.1 (Zkq key part)=some x.2:=by
 rw[Zhl]
 unfold grs
 simp only[zbu,zbx]
 constructor
 ·rintro⟨k,hkn,h⟩
  split at h
  ·cases h
  ·rename_i hne
   injection h with h
   subst h
   simp only
   rw[if_neg hne]
 ·intro h
  split at h
  ·cases h
  ·rename_i hne
   injection h with h
   obtain⟨i,hi⟩:=zbF _ hne
   obtain⟨hi,hik⟩:=zbb.1 hi
   have hik:key i=x.1:=by simpa using hik
   obtain⟨h1,h2⟩:=hk i hi
   have e:((x.1.toNat:Nat):Int)=x.1:=by omega
   refine⟨x.1.toNat,by omega,?_⟩
   rw[e,if_neg hne,h]
theorem Ze9 (key:Nat->Int) (n:Nat) (part:List Nat):(grs key n part).Pairwise fun p q=>p.1<q.1:=by
 unfold grs
 rw[List.pairwise_filterMap]
 refine List.Pairwise.imp ?_ (List.pairwise_lt_range)
 intro a b hab p hp q hq
 split at hp
 ·cases hp
 split at hq
 ·cases hq
 injection hp with hp
 injection hq with hq
 subst hp hq
 simp only
 omega
theorem nxtk_use {H:Zaa} {id mid n:Nat} {seen:List Value} {kk:SK} {es:List (Value×AV)} {K:AV->Zaa->Prop} (hi:H.get id=some (.iter mid n seen)) (hm:H.get mid=some (.map (.one kk) es false)) (hn:es.length=n)
  (h0:Zgc es seen=[]->K (.tup [.b false]) H) (h1:∀p∈Zgc es seen,K (.tup [.b true,.sc p.1,p.2]) (H.set id (.iter mid n (seen++[p.1])))):Zj7 H false (.ptr id 0) K:=by
 unfold Zj7
 simp only[hi,hm]
 exact⟨hn,h0,h1⟩
abbrev ZgS (outs:Grp):List Value:=outs.map fun e=>kI e.1
def inK (outs:Grp) (k:Int):Bool:=outs.any fun o=>decide (o.1=k)
theorem Zl0 {outs:Grp} {k:Int}:inK outs k=true ↔ k∈outs.map (·.1):=by
 unfold inK
 rw[List.any_eq_true]
 constructor
 ·rintro⟨o,ho,h⟩;exact zau.2 ⟨o,ho,by simpa using h⟩
 ·intro h;obtain⟨o,ho,h⟩:=zau.1 h;exact⟨o,ho,by simpa using h⟩
theorem Zij (M outs:Grp):Zgc (Zgf kI eG M) (ZgS outs)=Zgf kI eG (M.filter fun e=>!inK outs e.1):=by
 unfold Zgc Zgf
 rw[List.filter_map]
 congr 1
 apply zbV
 intro e _
 simp only[Function.comp_def,ZgS,List.any_map,ZkH,inK]
theorem Zkh (outs:Grp) (e:Int×(Nat×List Nat)):(ZgS outs++[kI e.1]).getLast?=some (kI e.1):=by simp
theorem ZkY (outs:Grp) (e:Int×(Nat×List Nat)):ZgS outs++[kI e.1]=ZgS (outs++[e]):=by simp
abbrev Zd2 (outs:Grp):List (List AV):=outs.map fun e=>[.i e.1,eG e.2]
def outV (o:Grp) (id cap:Nat):AV:=match o with
 | []=>.sl .full []
 | _ :: _=>.arr id 0 o.length cap
@[simp] theorem outV_nil (id cap:Nat):outV [] id cap=.sl .full []:=rfl
def outO (o:Grp) (id:Nat) (tail:List AV):List (Nat×Zb3):=match o with
 | []=>[]
 | _ :: _=>[(id,.cells ((Zd2 o).flatten++tail) 176)]
structure OutI (M:Grp) (b:Nat) (o:Grp) (id cap:Nat) (tail:List AV):Prop where
 sub:∀e∈o,e∈M
 keys:(o.map (·.1)).Nodup
 len:o.length+(M.filter fun e=>!inK o e.1).length<=M.length
 room:o≠[]->b<=id/\((Zd2 o).flatten++tail).length=cap * 2/\o.length<=cap
theorem Zmo (o:Grp) (e:Int×(Nat×List Nat)) (id cap:Nat):outV (o++[e]) id cap=.arr id 0 (o.length+1) cap:=by
 cases o with
 | nil=>rfl
 | cons a r=>show AV.arr id 0 (a :: (r++[e])).length cap=_;simp
theorem ZlL (o:Grp) (e:Int×(Nat×List Nat)) (id:Nat) (tail:List AV):outO (o++[e]) id tail=[(id,.cells ((Zd2 (o++[e])).flatten++tail) 176)]:=by
 cases o<;>rfl
theorem grp_push {H:Zaa} {o:Grp} {id cap:Nat} {tail:List AV} {e:Int×(Nat×List Nat)} {x:AV} {K:AV->Zaa->Prop} (hx:ZaL H 2 x=some [[.i e.1,eG e.2]])
  (ho:o≠[]->H.get id=some (.cells ((Zd2 o).flatten++tail) 176)/\((Zd2 o).flatten++tail).length=cap * 2/\o.length<=cap) (hl:o.length<=1000000)
  (k:∀id' cap' tail' H',(o≠[]/\id'=id/\H'=H.set id (.cells ((Zd2 (o++[e])).flatten++tail') 176))∨(id'=H.next/\H'=H.alloc (.cells ((Zd2 (o++[e])).flatten++tail') 176))->((Zd2 (o++[e])).flatten++tail').length=cap' * 2->o.length+1<=cap'->K (outV (o++[e]) id' cap') H') :
  Zk3 H 176 2 32 [.i 0,.sl .full []] (outV o id cap) x K:=by
 have hrw:∀q∈Zd2 o,q.length=2:=fun q hq=>by obtain⟨p,_,rfl⟩:=zau.1 hq;rfl
 have hsn:Zd2 o++[[.i e.1,eG e.2]]=Zd2 (o++[e]):=by simp
 simp only[Zmo]at k
 cases o with
 | nil =>
  unfold Zk3
  rw[hx]
  refine⟨⟨by simp,rfl,by unfold maxLen;simp,by simp⟩,fun c h1 h2=>?_⟩
  refine k H.next c _ _ (.inr ⟨rfl,rfl⟩) ?_ h1
  rw[zak,Zc7 (sz:=2) (fun q hq=>by obtain⟨p,_,rfl⟩:=zau.1 hq;rfl),Zc7 (sz:=2) (rows:=List.replicate _ _) (fun q hq=>by rw[(zbJ.1 hq).2];rfl),List.length_replicate,zaa,← zaY]
  simp only[List.length_cons,List.length_nil,List.nil_append]at h1 ⊢
  congr 1
  omega
 | cons a r =>
  obtain⟨h1,h2,h3⟩:=ho (by simp)
  have hrl:(Zd2 (a :: r)).length=(a :: r).length:=zaa ..
  have h:=Zp3 (H:=H) (E:=176) (sz:=2) (bytes:=32) (id:=id) (cap:=cap) (zero:=[.i 0,.sl .full []]) (rows:=Zd2 (a :: r)) (tail:=tail) (r:=[.i e.1,eG e.2]) (x:=x) (K:=K)
   h1 hrw hx rfl h2 (by rw[hrl];exact h3) (by rw[hrl];unfold maxLen;omega) (by rw[hrl];omega) rfl (fun id' cap' tail' H' q1 q2 q3 _=>by
    rw[hsn]at q1 q2
    rw[hrl]at q3 ⊢
    refine k id' cap' tail' H' ?_ q2 q3
    rcases q1 with⟨q1,q4⟩|q1
    ·exact .inl ⟨by simp,q1,q4⟩
    ·exact .inr q1)
  rw[hrl]at h
  exact h
theorem HX.outs {it it':Zb3} {o o':Grp} {id id' a:Nat} {tail tail':List AV} {H1 G2 G5:Zaa} (h:HX ((a,it) :: outO o id tail) H1 G2) (hid:o≠[]->H1.next<=id) (hn:G2.next<=G5.next) (ha:G5.get a=some it') (ho:∀p∈outO o' id' tail',G5.get p.1=some p.2)
  (hg:∀j,j<H1.next->j≠a->G5.get j=G2.get j):HX ((a,it') :: outO o' id' tail') H1 G5:=by
 refine⟨zaQ h.n hn,fun p hp=>?_,fun j hj hne=>?_⟩
 ·rcases zal.1 hp with rfl|hp
  ·exact ha
  ·exact ho p hp
 ·rw[zbj]at hne
  have hja:j≠a:=fun e=>by have:=hne (a,it') zah;simp[e]at this
  rw[hg j hj hja]
  refine h.g j hj ?_
  rw[zbj]
  intro p hp
  rcases zal.1 hp with rfl|hp
  ·simp;exact fun e=>hja e.symm
  ·cases o with
   | nil=>cases hp
   | cons x r =>
    rw[zas.1 hp]
    have:=hid (by simp)
    simp;omega
abbrev rG (gs:List (Int×List Nat)):List (List AV):=gs.map fun e=>[.i e.1,.sl .no (rP e.2)]
abbrev plain (M:Grp):List (Int×List Nat):=M.map fun e=>(e.1,e.2.2)
theorem grp_out {M o:Grp} {b id cap:Nat} {tail:List AV} (hM:(M.map (·.1)).Nodup) (hs:OutI M b o id cap tail) (h0:Zgc (Zgf kI eG M) (ZgS o)=[]):∀e,e∈o ↔ e∈M:=fun e=>by
 refine⟨hs.sub e,fun he=>?_⟩
 rw[Zij]at h0
 have h1:=List.map_eq_nil_iff.1 h0
 have h2:inK o e.1=true:=by
  have:=List.filter_eq_nil_iff.1 h1 e he
  simpa using this
 obtain⟨x,hx,hxe⟩:=zau.1 (Zl0.1 h2)
 have hxm:=hs.sub x hx
 have e1:=Zco (k:=e.1) (v:=e.2) hM he
 have e2:=Zco (k:=x.1) (v:=x.2) hM hxm
 rw[hxe,e1]at e2
 injection e2 with e2
 rw[show e=x from Prod.ext hxe.symm e2]
 exact hx
theorem grp_end {M o o':Grp} {part:List Nat} {key:Nat->Int} {n:Nat} (hMk:(M.map (·.1)).Nodup) (hM:plain M=Zkq key part) (hk:∀i∈part,0<=key i/\key i<n) (ho:∀e,e∈o ↔ e∈M) (hok:(o.map (·.1)).Nodup) (hp:o.Perm o') (hr:o'.Pairwise fun p q=>p.1<=q.1):plain o'=grs key n part:=by
 have hk':(o'.map (·.1)).Nodup:=((hp.map (·.1)).nodup_iff).1 hok
 have hlt:(plain o').Pairwise fun p q=>p.1<q.1:=by
  rw[zbW]
  rw[List.nodup_iff_pairwise_ne,zbW]at hk'
  exact(hr.and hk').imp fun⟨h1,h2⟩=>by simp only at h2 ⊢;omega
 refine Zll hlt (Ze9 key n part) fun x=>?_
 rw[grs_mem hk,← hM,plain,ZgW (fun p:Nat×List Nat=>p.2)]
 constructor
 ·intro hx
  obtain⟨e,he,rfl⟩:=zau.1 hx
  have hem:=(ho e).1 (hp.mem_iff.2 he)
  rw[Zco (k:=e.1) (v:=e.2) hMk hem]
  rfl
 ·intro hx
  cases hg:Zcz x.1 M with
  | none=>rw[hg]at hx;cases hx
  | some v =>
   rw[hg]at hx
   injection hx with hx
   have hem:=(ho _).2 (Zeh hg)
   exact zau.2 ⟨_,hp.mem_iff.1 hem,Prod.ext rfl hx⟩
theorem Zkd {α β:Type} {f:α->β}:∀{l:List α} {m:List β},ZeK (fun a b=>b=f a) l m->m=l.map f
 | _,_,.nil=>rfl
 | _,_,.cons h t=>by rw[h,Zkd t];rfl
theorem Zib {α β:Type} (f:α->β):∀l:List α,ZeK (fun a b=>b=f a) l (l.map f)
 | []=>.nil
 | _ :: l=>.cons rfl (Zib f l)
theorem ZjS:∀(o:Grp) (tail:List AV),chunk 2 o.length ((Zd2 o).flatten++tail)=Zd2 o
 | [],_=>rfl
 | e :: o,tail=>by
  simp only[zao,List.flatten_cons,List.length_cons,chunk,zaP]
  rw[show([AV.i e.1,eG e.2]++((Zd2 o).flatten++tail)).take 2=[AV.i e.1,eG e.2]from rfl,show([AV.i e.1,eG e.2]++((Zd2 o).flatten++tail)).drop 2=(Zd2 o).flatten++tail from rfl,ZjS o tail]
theorem frz_grp {H:Zaa} {D:Nat->Bool} {id cap E:Nat} {o:Grp} {tail:List AV} (hD:D id=true) (hg:H.get id=some (.cells ((Zd2 o).flatten++tail) E)):Frz H D (.arr id 0 o.length cap) (.sl .no (rG (plain o))):=by
 have hrw:∀q∈Zd2 o,q.length=2:=fun q hq=>by obtain⟨p,_,rfl⟩:=zau.1 hq;rfl
 have hfl:(Zd2 o).flatten.length=o.length * 2:=by
  have:=Zc7 (sz:=2) hrw
  rw[this,zaa]
 have hch:chunk 2 o.length (((Zd2 o).flatten++tail).drop 0)=Zd2 o:=ZjS o tail
 have hrr:∀(i:Nat) (r r':List AV),(Zd2 o)[i]?=some r->(rG (plain o))[i]?=some r'->∃e:Int×(Nat×List Nat),r=[.i e.1,eG e.2]/\r'=[.i e.1,.sl .no (rP e.2.2)]:=fun i r r' h1 h2=>by
  simp only[zaR]at h1 h2
  cases he:o[i]? with
  | none=>rw[he]at h1;cases h1
  | some e =>
   rw[he]at h1 h2
   injection h1 with h1
   injection h2 with h2
   exact⟨e,h1.symm,h2.symm⟩
 refine .arr id 0 2 o.length cap E _ _ hD hg (by rw[zak,hfl];omega) (by simp) (fun i r r' h1 h2=>?_) (fun i r r' j x y h1 h2 hx hy=>?_)
 ·rw[hch]at h1
  obtain⟨e,rfl,rfl⟩:=hrr i r r' h1 h2
  rfl
 ·rw[hch]at h1
  obtain⟨e,rfl,rfl⟩:=hrr i r r' h1 h2
  match j,hx,hy with
  | 0,hx,hy =>
   injection hx with hx
   injection hy with hy
   subst hx hy
   exact .refl _
  | 1,hx,hy =>
   injection hx with hx
   injection hy with hy
   subst hx hy
   refine .sl _ _ _ rfl (fun i r r' h1 h2=>by rw[h1]at h2;injection h2 with h2;rw[h2]) (fun i r r' j x y h1 h2 hx hy=>by
    rw[h1]at h2;injection h2 with h2;subst h2;rw[hx]at hy;injection hy with hy;subst hy;exact .refl _)
  | j+2,hx,_=>exact absurd hx (by simp)
def Ziy (facts:List Fct) (lift:List Int) (at_:Nat) (key:Nat->Int) (part:List Nat):Prop:=∀i∈part,∃(hi:i<facts.length) (n:Nat) (hn:n<lift.length) (ha:at_<facts[i].1.length),facts[i].1[at_]=(n:Int)/\lift[n]=key i
set_option maxHeartbeats 4000000 in
theorem Zht {facts:List Fct} {L:List (List (List Int))} {at_ tier:Nat} {part:List Nat} {key:Nat->Int} {t tf tl:Tok} {bid:Nat} {ov mv ev:AV} {H:Zaa} (hb:H.get bid=some (.cells [.sl tf (rF facts),.sl tl (rIII L),ov,mv,ev] 97))
  (h1:at_<L.length) (h2:tier<L[at_].length) (hk:Ziy facts (L[at_][tier]) at_ key part) (hp:part.length<=1000000) {n:Nat} (hkr:∀i∈part,0<=key i/\key i<n) (hne:part≠[]):Zay Tryz.prog 98 [.ptr bid 0,.i (at_:Int),.i (tier:Int),.sl t (rP part)] H (Pure H (.sl .no (rG (grs key n part)))):=by
 have lb:=Zaa.lt hb
 have r1:(rIII L)[at_]?=some [.sl .no (rII L[at_])]:=by simp[h1]
 have r2:(rII L[at_])[tier]?=some [.sl .no (rI L[at_][tier])]:=by simp[h2]
 generalize L[at_][tier]=lift at *
 refine Zak hEg vf98 (zac rfl) fun Q qr qn=>?_
 ((have hd:=tv;repeat' first|(first|apply Zad|apply Zac|apply Zab)<;>intro hd<;>try simp only[hd]|simp(disch:=first|assumption|omega|simp only[nx]<;>omega|fail)only[hd,qr,qn,Zgg,↓YA,YY,sevalprocAttr,hb,r1,r2,zaa])<;>try revert hd;refine ttr ?_)
 have hx0:Zaa.Ext H (H.alloc (.map (.one (.int .i64)) [] false)):=by exact AXT
 refine Zbs [0,1,9,10,28,29] (σ:=Grp) (fun(k:Nat) s=>GrpI s (H.next+1)/\plain s=Zkq key (part.take k)) (fun k s=>[]) (fun k s=>((H.next,mpG s) :: tokG s)) [] (GStep.refl _ _) (by simp only[ZaA,Zav,Fr.put,Fr.get,↓reduceIte,Nat.reduceEqDiff];rfl) (by intro k s;rfl) (by intro k s;rfl) (by rfl) (by unfold maxLen;omega) ?_ (by simp only[ZaF]) ?_ ?_ ?_
 ·exact⟨⟨by simp,by simp,by simp⟩,rfl⟩
 ·rw[ZaP]
  exact⟨Zaa.Zae (H:=H),by simp[Zc5,tokG]⟩
 ·(rintro k M G hj ⟨hI,hM⟩ hG hn;try simp only[nx]at hn)
  have ho:=hG.o1
  have lo:=Zaa.lt ho
  have hc:=(hG.g _ (by simp only[nx];omega) (by
   rw[zbj]
   intro p hp
   rcases zal.1 hp with rfl|hp
   ·simp;omega
   ·obtain⟨e,he,rfl⟩:=zau.1 hp
    have:=hI.lo e he
    simp;omega)).trans ((Zaa.Zag (by omega)).trans hb)
  have lc:=Zaa.lt hc
  obtain⟨hi,n,hn',ha,e1,e2⟩:=hk _ (zam hj)
  have g1:(rP part)[k]?=some [.i (part[k]:Int)]:=by simp[hj]
  have g2:=ZjV hi
  obtain⟨f0,f1,f2,f3⟩:=Zbu facts[part[k]]
  have g3:(rI facts[part[k]].1)[at_]?=some [.i (n:Int)]:=by simp[ha,e1]
  have g4:(rI lift)[n]?=some [.i (key part[k])]:=by simp[hn',e2]
  have hsn:=Zlt key hj
  generalize part[k]=i at *
  have hof:=kI_of (key i)
  have hfn:=ZbV (vf:=eG) ZkH (key i) M
  have hag:=ZgW (fun p:Nat×List Nat=>p.2) (key i) M
  rw[show(M.map fun e=>(e.1,e.2.2))=Zkq key (part.take k)from hM]at hag
  cases hgk:Zcz (key i) M with
  | none =>
   rw[hgk]at hfn hag
   have hset:Ziw (kI (key i)) (.sl (.own G.next) [[AV.i (i:Int)]]) (Zgf kI eG M)=Zgf kI eG (ZbU (key i) (G.next,[i]) M):=ZcH (vf:=eG) ZkH (key i) (G.next,[i]) M
   have la2:ZaE 1 [[AV.i (i:Int)]]=true:=rfl
   have la1:ZaE 1 ([]:List (List AV))=true:=rfl
   have lm1:1<=maxLen:=by unfold maxLen;omega
   ((have hd:=tv;repeat' first|(first|apply Zad|apply Zac|apply Zab)<;>intro hd<;>try simp only[hd]|simp(disch:=first|assumption|omega|simp only[nx]<;>omega|fail)only[hd,qr,qn,Zgg,↓YA,YY,sevalprocAttr,hc,ho,g1,g2,f0,f1,g3,g4,hof,hfn,Option.map_none,la1,la2,lm1,ZaL,rowsOf,zaa])<;>try revert hd;refine ttr ?_)
   rw[hset]
   obtain⟨n1,n2⟩:=hI.new (i:=i) hG (by have:=hn;omega) (by omega) hgk
   refine⟨_,⟨n1,?_⟩,n2⟩
   rw[hsn,hag,← hM]
   exact(Zhf (fun p:Nat×List Nat=>p.2) (key i) (G.next,[i]) M).symm
  | some e =>
   obtain⟨tk,p⟩:=e
   rw[hgk]at hfn hag
   have hset:=ZcH (vf:=eG) ZkH (key i) (tk,p++[i]) M
   have hmem:=Zeh hgk
   have htk:G.get tk=some (.tok p.length 3 1):=hG.o (tk,_) (zae _ (zau.2 ⟨_,hmem,rfl⟩))
   have ltk:=Zaa.lt htk
   have hlo:=hI.lo _ hmem
   simp only at hlo
   have la2:ZaE 1 [[AV.i (i:Int)]]=true:=rfl
   have la1:ZaE 1 (rP p)=true:=ZaU (f:=fun i:Nat=>[AV.i (i:Int)]) (fun _=>rfl) p
   have hpl:p.length<=_:=grpA_len hag
   rw[zbd]at hpl
   have lm1:p.length+1<=maxLen:=by unfold maxLen;omega
   have lm2:(p.length+1) * 8<=140737488355328:=by omega
   have hrl:(rP p).length=p.length:=by simp
   have hrs:rP p++[[AV.i (i:Int)]]=rP (p++[i]):=by simp
   ((have hd:=tv;repeat' first|(first|apply Zad|apply Zac|apply Zab)<;>intro hd<;>try simp only[hd]|simp(disch:=first|assumption|omega|simp only[nx]<;>omega|fail)only[hd,qr,qn,Zgg,↓YA,YY,sevalprocAttr,hc,ho,g1,g2,f0,f1,g3,g4,hof,hfn,Option.map_some,htk,la1,la2,lm1,lm2,hrl,hrs,hset,ZaL,rowsOf,zaa])<;>try revert hd;refine ttr ?_)
   obtain⟨n1,n2⟩:=hI.old (i:=i) hG (by omega) hgk
   refine⟨_,⟨n1,?_⟩,n2⟩
   rw[hsn,hag,← hM]
   exact(Zhf (fun p:Nat×List Nat=>p.2) (key i) (tk,p++[i]) M).symm
 ·(rintro M G ⟨hI,hM⟩ hG hn;try simp only[nx]at hn)
  have ho:=hG.o1
  have lo:=Zaa.lt ho
  have hlen:(Zgf kI eG M).length=M.length:=by rw[Zgf,zaa]
  have hxG:Zaa.Ext H G:=hG.ZdB hx0 (by
   intro p hp
   rcases zal.1 hp with rfl|hp
   ·simp
   ·obtain⟨e,he,rfl⟩:=zau.1 hp
    have:=hI.lo e he
    simp;omega)
  have htk:∀e∈M,G.get e.2.1=some (.tok e.2.2.length 3 1):=fun e he=>hG.o (e.2.1,_) (zae _ (zau.2 ⟨e,he,rfl⟩))
  rw[zaN]at hM
  have hMl:M.length<=part.length:=by
   have:=Zjb key part
   rw[← hM,zaa]at this
   exact this
  ((have hd:=tv;repeat' first|(first|apply Zad|apply Zac|apply Zab)<;>intro hd<;>try simp only[hd]|simp(disch:=first|assumption|omega|simp only[nx]<;>omega|fail)only[hd,qr,qn,Zgg,↓YA,YY,sevalprocAttr,ho,hlen])<;>try revert hd;refine ttr ?_)
  refine Zcw [58] (σ:=Grp×Nat×Nat×List AV) (fun s=>OutI M (G.next+1) s.1 s.2.1 s.2.2.1 s.2.2.2) (fun s=>(M.filter fun e=>!inK s.1 e.1).length) (fun s=>[(14,outV s.1 s.2.1 s.2.2.1)]) (fun s=>((G.next,.iter H.next M.length (ZgS s.1)) :: outO s.1 s.2.1 s.2.2.2)) (([]:Grp),0,0,([]:List AV)) (GStep.refl _ _) (by simp only[ZaA,Zav,Fr.put,Fr.get,↓reduceIte,Nat.reduceEqDiff];rfl) ?_ (by simp only[ZaF,ZaX,Fr.put,Fr.get,↓reduceIte,Nat.reduceEqDiff,and_self]<;>simp) ?_ ?_
  ·exact⟨by simp,by simp,by simp only[List.length_nil,zay];exact List.length_filter_le _ _,by simp⟩
  ·rw[ZaP]
   exact⟨Zaa.Zae (H:=G),by simp[Zc5,outO]⟩
  ·(rintro s G2 hs hG2 hn2;try simp only[nx]at hn2)
   obtain⟨o,id,cap,tail⟩:=s
   simp only at hs hG2
   have hi2:=hG2.o1
   have li2:=Zaa.lt hi2
   have hm2:G2.get H.next=some (mpG M):=(hG2.g _ (by simp only[nx];omega) (by
    rw[zbj]
    intro p hp
    rcases zal.1 hp with rfl|hp
    ·simp;omega
    ·unfold outO at hp
     cases o with
     | nil=>cases hp
     | cons a r =>
      rw[zas.1 hp]
      have:=(hs.room (by simp)).1
      simp;omega)).trans ((Zaa.Zag (by omega)).trans ho)
   have lm2:=Zaa.lt hm2
   ((have hd:=tv;repeat' first|(first|apply Zad|apply Zac|apply Zab)<;>intro hd<;>try simp only[hd]|simp(disch:=first|assumption|omega|simp only[nx]<;>omega|fail)only[hd,qr,qn,Zgg,↓YA,YY,sevalprocAttr])<;>try revert hd;refine ttr ?_)
   refine nxtk_use hi2 hm2 hlen (fun h0=>?_) (fun p hp=>?_)
   ·have hin:=grp_out hI.keys hs h0
    have hon:o≠[]:=fun he=>by
     subst he
     obtain⟨i,hi⟩:=zbF _ hne
     have hmm:Zcz (key i) (plain M)≠none:=by
      rw[hM,Zhl,if_neg]
      ·simp
      ·intro hh
       have:i∈part.filter (fun j=>decide (key j=key i)):=zbb.2 ⟨hi,by simp⟩
       rw[hh]at this;cases this
     cases M with
     | nil=>exact hmm rfl
     | cons e r=>exact absurd ((hin e).2 zah) (by simp)
    obtain⟨q1,q2,q3⟩:=hs.room hon
    have hout:outV o id cap=.arr id 0 o.length cap:=by
     cases o with
     | nil=>exact absurd rfl hon
     | cons a r=>rfl
    have hoo:G2.get id=some (.cells ((Zd2 o).flatten++tail) 176):=by
     cases o with
     | nil=>exact absurd rfl hon
     | cons a r=>exact hG2.o (id,_) (by simp[outO])
    have hfl:flG (o.map fun e=>(e.1,eG e.2))=(Zd2 o).flatten:=by rw[flG,List.flatMap_map,List.flatMap_def]
    have hS:=Zi4 (oid:=id) (cap:=cap) (E:=176) (gs:=o.map fun e=>(e.1,eG e.2)) (tail:=tail) (H:=G2) (by rw[hfl];exact hoo) (fun p hp=>by obtain⟨e,_,rfl⟩:=zau.1 hp;rfl) (by rw[zaa];have:=hs.len;omega)
    rw[zaa]at hS
    have hlo:=Zaa.lt hoo
    have hxG2:Zaa.Ext H G2:=hG2.ZdB (by exact AXT) (by
     intro p hp
     rcases zal.1 hp with rfl|hp
     ·simp only;omega
     ·cases o with
      | nil=>cases hp
      | cons a r=>rw[zas.1 hp];simp only;omega)
    ((have hd:=tv;repeat' first|(first|apply Zad|apply Zac|apply Zab)<;>intro hd<;>try simp only[hd]|simp(disch:=first|assumption|omega|simp only[nx]<;>omega|fail)only[hd,qr,qn,Zgg,↓YA,YY,sevalprocAttr,hout])<;>try revert hd;refine ttr ?_)
    refine Zap.use hS ?_
    rintro _ _ ⟨rfl,gs',hp',hr',rfl⟩
    obtain⟨o',p1,p2⟩:=Zif hp' (Zib (fun e:Int×(Nat×List Nat)=>(e.1,eG e.2)) o)
    have p3:=Zkd p2
    subst p3
    have p4:=grp_end (o':=o') hI.keys hM hkr hin hs.keys p1 (by rw[zbW]at hr';exact hr')
    have hfl':flG (o'.map fun e=>(e.1,eG e.2))=(Zd2 o').flatten:=by rw[flG,List.flatMap_map,List.flatMap_def]
    rw[hfl']
    ((have hd:=tv;repeat' first|(first|apply Zad|apply Zac|apply Zab)<;>intro hd<;>try simp only[hd]|simp(disch:=first|assumption|omega|simp only[nx]<;>omega|fail)only[hd,qr,qn,Zgg,↓YA,YY,sevalprocAttr])<;>try revert hd;refine ttr ?_)
    have hgo:(G2.set id (.cells ((Zd2 o').flatten++tail) 176)).get id=some (.cells ((Zd2 o').flatten++tail) 176):=Zaa.Zal hlo
    have hxo:Zaa.Ext H (G2.set id (.cells ((Zd2 o').flatten++tail) 176)):=by exact AXT
    have hfr:=frz_grp (D:=fun i=>decide (i=id)) (cap:=cap) (by simp) hgo
    rw[p4,← p1.length_eq]at hfr
    exact ZpD hfr (fun i hi=>by simp;omega) hxo
   ·rw[Zij]at hp
    obtain⟨e,he,rfl⟩:=zau.1 hp
    obtain⟨he,hek⟩:=zbb.1 he
    have hfn:=ZbV (vf:=eG) ZkH e.1 M
    have hge:=Zco hI.keys (k:=e.1) (v:=e.2) he
    rw[hge,Option.map_some]at hfn
    have hgl:=Zkh o e
    have hln:(Zgf kI eG M).length=M.length:=hlen
    have hki:AV.sc (kI e.1)=.i e.1:=rfl
    ((have hd:=tv;repeat' first|(first|apply Zad|apply Zac|apply Zab)<;>intro hd<;>try simp only[hd]|simp(disch:=first|assumption|omega|simp only[nx]<;>omega|fail)only[hd,qr,qn,Zgg,↓YA,YY,sevalprocAttr,hm2,hgl,hln,hfn,hki,rowsOf,zaa])<;>try revert hd;refine ttr ?_)
    have hrow:ZaL ((G2.set G.next (.iter H.next M.length (ZgS o++[kI e.1]))).alloc (.cells [[AV.i e.1,AV.sl (.own e.2.1) (rP e.2.2)]].flatten 176)) 2 (.arr G2.next 0 1 1)=some [[.i e.1,eG e.2]]:=by
     have hgs:((G2.set G.next (.iter H.next M.length (ZgS o++[kI e.1]))).alloc (.cells [[AV.i e.1,AV.sl (.own e.2.1) (rP e.2.2)]].flatten 176)).get G2.next=some (.cells [[AV.i e.1,AV.sl (.own e.2.1) (rP e.2.2)]].flatten 176):=Zaa.Zae (H:=G2.set _ _)
     simp only[ZaL,hgs]
     rfl
    have hol:o.length<=1000000:=by have:=hs.len;omega
    have hoo:o≠[]->G2.get id=some (.cells ((Zd2 o).flatten++tail) 176):=fun hne=>by
     cases o with
     | nil=>exact absurd rfl hne
     | cons a r=>exact hG2.o (id,_) (by simp[outO])
    have hmu:(M.filter fun e'=>!inK (o++[e]) e'.1).length<(M.filter fun e'=>!inK o e'.1).length:=filter_lt _ _ (fun x hx=>by
     simp only[zbL,inK,List.any_append,Bool.or_eq_false_iff]at hx ⊢
     exact hx.1) e hek (by simp[inK]) M he
    refine grp_push (tail:=tail) hrow (fun hne=>?_) hol (fun id' cap' tail' G5 hc hcl hcc=>?_)
    ·obtain⟨q1,q2,q3⟩:=hs.room hne
     have h1:=hoo hne
     have:=Zaa.lt h1
     refine⟨?_,q2,q3⟩
     rw[Zaa.Zag (by simp only[nx];omega),Zaa.Zah (by omega)]
     exact h1
    ·((have hd:=tv;repeat' first|(first|apply Zad|apply Zac|apply Zab)<;>intro hd<;>try simp only[hd]|simp(disch:=first|assumption|omega|simp only[nx]<;>omega|fail)only[hd,qr,qn,Zgg,↓YA,YY,sevalprocAttr])<;>try revert hd;refine ttr ?_)
     refine⟨(o++[e],id',cap',tail'),⟨fun x hx=>?_,?_,by rw[zak];have:=hs.len;simp only[List.length_cons,List.length_nil];omega,fun _=>⟨?_,hcl,by simpa using hcc⟩⟩,hmu,rfl,?_⟩
     ·rcases zaz.1 hx with hx|hx
      ·exact hs.sub x hx
      ·rw[zas.1 hx];exact he
     ·rw[za9,List.nodup_append]
      refine⟨hs.keys,by simp,fun a ha b hb hab=>?_⟩
      simp at hb
      subst hab hb
      have:=Zl0.2 ha
      simp[this]at hek
     ·rcases hc with⟨hne,rfl,_⟩|⟨rfl,_⟩
      ·exact(hs.room hne).1
      ·simp only[nx];omega
     ·simp only
      rw[← ZkY]
      refine hG2.outs (fun hne=>by simp only[nx];exact(hs.room hne).1) ?_ ?_ (fun p hp=>?_) (fun j hj hja=>?_)
      ·rcases hc with⟨_,_,rfl⟩|⟨_,rfl⟩<;>simp only[nx]<;>omega
      ·rcases hc with⟨hne,_,rfl⟩|⟨_,rfl⟩
       ·have:=(hs.room hne).1
        rw[Zaa.Zah (by omega),Zaa.Zag (by simp only[nx];omega)]
        exact Zaa.Zal li2
       ·rw[Zaa.Zag (by simp only[nx];omega),Zaa.Zag (by simp only[nx];omega)]
        exact Zaa.Zal li2
      ·rw[ZlL]at hp
       rw[zas.1 hp]
       rcases hc with⟨hne,rfl,rfl⟩|⟨rfl,rfl⟩
       ·have:=Zaa.lt (hoo hne)
        exact Zaa.Zal (by simp only[nx];omega)
       ·exact Zaa.Zae
      ·simp only[nx]at hj
       rcases hc with⟨hne,_,rfl⟩|⟨_,rfl⟩
       ·have:=(hs.room hne).1
        rw[Zaa.Zah (by omega),Zaa.Zag (by simp only[nx];omega),Zaa.Zah hja]
       ·rw[Zaa.Zag (by simp only[nx];omega),Zaa.Zag (by simp only[nx];omega),Zaa.Zah hja]
end Go.Proofs.YtaapiigfmdhobaaGreat
