/- Texts of the walk, joined: Lp Lq Lr Ls. -/
import Derived.Test.YtemmgefppobboaaGreatDoorMi
import Derived.Test.YtemmgefppobboaaGreatDoorMd
namespace Go.Proofs.YtemmgefppobboaaGreatDoor
set_option linter.unusedSimpArgs false
set_option linter.unusedVariables false
open Go.RowKit Go.Lib
structure Grp where
 keys:List Tx
 count:Int
 m:Nat→Int
def eGr (g:Grp):List AV:=[.sl .no (rS g.keys),.i g.count,.i (g.m 0),.i (g.m 1),.i (g.m 2),.i (g.m 3),.i (g.m 4),.i (g.m 5),.i (g.m 6),.i (g.m 7),.i (g.m 8)]
abbrev rG (l:List Grp):List (List AV):=l.map eGr
structure GrOk (g:Grp):Prop where
 len:g.keys.length≤20
 sum:ZAr g.keys≤1000
 cnt:InI g.count
 m:∀k,k<9→InI (g.m k)
theorem ZAq (g:Grp):(eGr g).length=11∧(eGr g)[0]?=some (.sl .no (rS g.keys))∧(eGr g)[1]?=some (.i g.count)∧(eGr g).take 11=eGr g:=⟨rfl,rfl,rfl,rfl⟩
def ZAg (g:Grp) (i:Nat):Tx:=Lib.join [itoa (g.m (3 * i)),itoa (g.m (3 * i+1)),itoa (g.m (3 * i+2))] [58]
def ZAf (g:Grp) (n:Nat):Tx:=(List.range n).flatMap fun i=>32 :: ZAg g i
def nMs (ms:Int):Nat:=min (max ms 0).toNat 3
def ZAd (ms:Int) (g:Grp):Tx:=[32,32]++ZAc g.keys++[61]++itoa g.count++ZAf g (nMs ms)
def ZAe (l:List Int):Tx:=l.flatMap fun n=>32 :: itoa n
def ZAY (err:Int) (nums:List Int):Tx:=(if err=0 then [111,107] else [101,114,114,111,114,32]++itoa err)++ZAe nums
def ZAa (ms err:Int) (gs:List Grp) (nums:List Int):List Tx:=ZAY err nums :: gs.map (ZAd ms)
theorem nd_lt:∀k u:Nat,u<10 ^ (k+1)→nDigits u≤k+1
 | 0,u,h=>by rw[nDigits_small (by simpa using h)];omega
 | k+1,u,h=>by
  by_cases h10:u<10
  ·rw[nDigits_small h10];omega
  ·rw[nDigits_big h10]
   have:=nd_lt k (u / 10) (by rw[Nat.pow_succ]at h;omega)
   omega
theorem Zz8 {n:Int} (h:InI n):(itoa n).length≤20:=by
 have h1:=h.1
 have h2:=h.2
 unfold itoa
 split
 ·rw[List.length_cons,decDigits_length]
  have:=nd_lt 18 n.natAbs (by omega)
  omega
 ·rw[decDigits_length]
  have:=nd_lt 18 n.toNat (by omega)
  omega
theorem ZAN {g:Grp} (h:GrOk g) {i:Nat} (hi:i<3):(ZAg g i).length≤62:=by
 have h1:=Zz8 (h.m (3 * i) (by omega))
 have h2:=Zz8 (h.m (3 * i+1) (by omega))
 have h3:=Zz8 (h.m (3 * i+2) (by omega))
 unfold ZAg
 rw[Lib.join_cons]
 simp only[Lib.joinTail,List.map_cons,List.map_nil,List.flatten_cons,List.flatten_nil,List.length_append,List.length_cons,List.length_nil]
 omega
theorem ZAn (g:Grp) (n:Nat):ZAf g (n+1)=ZAf g n++(32 :: ZAg g n):=by
 unfold ZAf
 rw[List.range_succ,List.flatMap_append]
 simp
theorem ZAk {g:Grp} (h:GrOk g):∀n,n≤3→(ZAf g n).length≤63 * n
 | 0,_=>by simp[ZAf]
 | n+1,hn=>by
  have:=ZAk h n (by omega)
  have h2:=ZAN h (i:=n) (by omega)
  rw[ZAn,List.length_append,List.length_cons]
  omega
theorem ZAl {l:List Tx} (h1:l.length≤20) (h2:ZAr l≤1000):(ZAc l).length≤3000:=by
 have h3:=ZAw [44] (l.map ZyH)
 have h4:=ZAj l
 unfold ZAc
 simp only[List.length_map,List.length_cons,List.length_nil]at h3
 omega
theorem ZAu {l:List Int} {k:Nat} (h:k<l.length):ZAe (l.take (k+1))=ZAe (l.take k)++(32 :: itoa l[k]):=by
 unfold ZAe
 rw[List.take_succ_eq_append_getElem h,List.flatMap_append]
 simp
theorem ZAV {l:List Int} (h:∀n∈l,InI n):(ZAe l).length≤21 * l.length:=by
 unfold ZAe
 induction l with
 | nil=>simp
 | cons x l ih =>
  have h1:=Zz8 (h x (by simp))
  have h2:=ih fun n hn=>h n (by simp[hn])
  simp only[List.flatMap_cons,List.length_append,List.length_cons]
  omega
theorem mm3 (ms:Int):(if (3:Int)<(if (0:Int) > ms then 0 else ms) then 3 else (if (0:Int) > ms then 0 else ms))=((nMs ms:Nat):Int):=by
 unfold nMs
 split<;>split<;>omega
theorem ZAh {l:List Int} (h:∀n∈l,InI n) (hl:l.length≤60) (k:Nat):(ZAe (l.take k)).length≤1260:=by
 have h1:=ZAV (l:=l.take k) fun n hn=>h n (List.mem_of_mem_take hn)
 have h2:(l.take k).length≤l.length:=by rw[List.length_take];omega
 omega
theorem ZAp {n:Nat} (h:n≤1000000):n≤maxLen:=by unfold maxLen;omega
set_option maxHeartbeats 4000000 in
theorem ZAL {Q:AEx→Fr→Zaa→Prop} {F:Fr} {G:Zaa} {ms:Int} {ia:Nat} {nums:List Int} {t2:Tok} {h0:Tx} (hn:nums.length≤60) (hns:∀n∈nums,InI n) (hl0:h0.length≤26)
  (f0:Fr.get F 0=.i ms) (f3:Fr.get F 3=.ptr ia 0) (f24:Fr.get F 24=.i 0) (f23:Fr.get F 23=.i (nums.length:Int)) (f22:Fr.get F 22=.sl t2 (rI nums)) (f5:Fr.get F 5=eS h0)
  (hQ:∀F' G',Zaa.Ext G G'→Fr.get F' 0=.i ms→Fr.get F' 3=.ptr ia 0→Fr.get F' 5=eS (h0++ZAe nums)→Q .normal F' G'):AW Tryz.prog c15_1 Q F G:=by
 have hi:∀n H,InI n→Zay Tryz.prog 33 [.i n] H (Pure H (eS (itoa n))):=fun n H h=>Same.pure (ZAB n H h.1 h.2)
 have hQr:=trivial
 have hQn:=trivial
 refine ZbJ (N:=nums.length) (fun k F G'=>Fr.get F 24=.i (k:Int)∧Fr.get F 23=.i (nums.length:Int)∧Fr.get F 22=.sl t2 (rI nums)∧Fr.get F 0=.i ms∧Fr.get F 3=.ptr ia 0∧Fr.get F 5=eS (h0++ZAe (nums.take k))∧Zaa.Ext G G') (by unfold maxLen;omega) (fun k F G h=>⟨h.1,h.2.1⟩) (GStep.refl _ _) ⟨f24,f23,f22,f0,f3,by rw[f5];simp[ZAe],.refl _⟩ ?_ ?_
 ·rintro k F G' hk ⟨f24,f23,f22,f0,f3,f5,hx⟩
  have hz:(0:Int)≤(k:Int):=by omega
  have hr:(rI nums)[k]?=some [.i nums[k]]:=by simp[hk]
  have hin:=hns _ (List.getElem_mem hk)
  have hsn:=ZAu hk
  have hlen:=ZAh hns hn k
  have hil:=Zz8 hin
  generalize nums[k]=n at *
  generalize hB1:ZAe (nums.take (k+1))=B1 at *
  generalize ZAe (nums.take k)=B0 at *
  have ha1:(⟨#[32]⟩:ByteArray)++⟨(itoa n).toArray⟩=⟨(32 :: itoa n).toArray⟩:=Zz9 [32] (itoa n)
  have ha2:(⟨(h0++B0).toArray⟩:ByteArray)++⟨(32 :: itoa n).toArray⟩=⟨(h0++B0++32 :: itoa n).toArray⟩:=Zz9 (h0++B0) (32 :: itoa n)
  have hf1:1+(itoa n).length≤maxLen:=ZAp (by omega)
  have hf2:(h0++B0).length+((itoa n).length+1)≤maxLen:=ZAp (by simp only[List.length_append];omega)
  skip
  ((have hd:=trivial;repeat' (first|((first|apply Zad|apply Zac|apply Zab)<;>intro hd<;>(try simp only[hd]))|simp(disch:=first|assumption|omega|(simp only[nx]<;>omega)|fail)only [hd,hQr,hQn,ZkW,↓YA,YB,YC,YE,YF,YZ,sevalprocAttr,f24,f23,f22,f0,f3,f5,hz,hr]))<;>(try (have hd_:True:=hd;clear hd_ hd)))
  (refine Zap.use (hi n _ hin) ?_;rintro _ _ ⟨rfl,k2,rfl⟩)
  ((have hd:=trivial;repeat' (first|((first|apply Zad|apply Zac|apply Zab)<;>intro hd<;>(try simp only[hd]))|simp(disch:=first|assumption|omega|(simp only[nx]<;>omega)|fail)only [hd,hQr,hQn,ZkW,↓YA,YB,YC,YE,YF,YZ,sevalprocAttr,f24,f23,f22,f0,f3,f5,hf1,ha1,hf2,ha2]))<;>(try (have hd_:True:=hd;clear hd_ hd)))
  exact⟨by rw[hB1,hsn,List.append_assoc],hx.bump⟩
 ·rintro F G' ⟨f24,f23,f22,f0,f3,f5,hx⟩
  rw[List.take_length]at f5
  skip
  ((have hd:=trivial;repeat' (first|((first|apply Zad|apply Zac|apply Zab)<;>intro hd<;>(try simp only[hd]))|simp(disch:=first|assumption|omega|(simp only[nx]<;>omega)|fail)only [hd,hQr,hQn,ZkW,↓YA,YB,YC,YE,YF,YZ,sevalprocAttr]))<;>(try (have hd_:True:=hd;clear hd_ hd)))
  exact hQ _ _ hx (by simpa [Fr.get] using f0) (by simpa [Fr.get] using f3) (by simpa [Fr.get] using f5)
set_option maxHeartbeats 4000000 in
theorem ans_meas {Q:AEx→Fr→Zaa→Prop} {F:Fr} {G:Zaa} {ms:Int} {ig n:Nat} {g:Grp} {tok t1:Tok} {out:List Tx} {gs:List Grp} {k N:Nat} {cap:Nat} (hg:GrOk g) (hn:n≤3) {s0:Tx} (hl0:s0.length≤4000)
  (f0:Fr.get F 0=.i ms) (f8:Fr.get F 8=.sl tok (rS out)) (f37:Fr.get F 37=.sl t1 (rG gs)) (f38:Fr.get F 38=.i (N:Int)) (f39:Fr.get F 39=.i (k:Int)) (f58:Fr.get F 58=.arr ig 2 n cap) (f59:Fr.get F 59=.i (n:Int)) (f60:Fr.get F 60=.i 0) (f11:Fr.get F 11=eS s0)
  (hG:G.get ig=some (.cells (eGr g) 46))
  (hQ:∀F' G',Zaa.Ext G G'→Fr.get F' 0=.i ms→Fr.get F' 8=.sl tok (rS out)→Fr.get F' 37=.sl t1 (rG gs)→Fr.get F' 38=.i (N:Int)→Fr.get F' 39=.i (k:Int)→Fr.get F' 11=eS (s0++ZAf g n)→Q .normal F' G'):AW Tryz.prog c15_3 Q F G:=by
 have hQr:=trivial
 have hQn:=trivial
 refine ZbJ (N:=n) (fun i F G'=>Fr.get F 60=.i (i:Int)∧Fr.get F 59=.i (n:Int)∧Fr.get F 58=.arr ig 2 n cap∧Fr.get F 0=.i ms∧Fr.get F 8=.sl tok (rS out)∧Fr.get F 37=.sl t1 (rG gs)∧Fr.get F 38=.i (N:Int)∧Fr.get F 39=.i (k:Int)∧Fr.get F 11=eS (s0++ZAf g i)∧Zaa.Ext G G') (by unfold maxLen;omega) (fun k F G h=>⟨h.1,h.2.1⟩) (GStep.refl _ _) ⟨f60,f59,f58,f0,f8,f37,f38,f39,by rw[f11];simp[ZAf],.refl _⟩ ?_ ?_
 ·rintro i F G' hi ⟨f60,f59,f58,f0,f8,f37,f38,f39,f11,hx⟩
  have hz:(0:Int)≤(i:Int):=by omega
  have hg':=hx.get _ _ hG
  have hsn:=ZAn g i
  have htl:=ZAk hg i (by omega)
  have hml:=ZAN hg (i:=i) (by omega)
  have hlt:(i:Int)<(n:Int):=by omega
  have hj:∀t H,Zay Tryz.prog 36 [.sl t (rS ([g.m (3 * i),g.m (3 * i+1),g.m (3 * i+2)].map itoa)),eS [58]] H (Pure H (eS (ZAg g i))):=fun t H=>ZAC t _ [58] H (by show(ZAg g i).length≤_;omega) (by simp)
  have he:∀t H,Zay Tryz.prog 37 [.sl t (rI [g.m (3 * i),g.m (3 * i+1),g.m (3 * i+2)]),.fn 38 [] []] H (SlQ ([g.m (3 * i),g.m (3 * i+1),g.m (3 * i+2)].map itoa) H):=fun t H=>ZkK t _ H (by simp) (by
   intro x hx
   simp only[List.mem_cons,List.not_mem_nil,or_false]at hx
   rcases hx with rfl|rfl|rfl
   ·exact hg.m _ (by omega)
   ·exact hg.m _ (by omega)
   ·exact hg.m _ (by omega))
  skip
  have hle:(2+i * 3+3≤(eGr g).length)=True:=by rw[eq_iff_iff,iff_true];show 2+i * 3+3≤11;omega
  have hx3:List.take 3 (List.drop (2+i * 3) (eGr g))=[.i (g.m (3 * i)),.i (g.m (3 * i+1)),.i (g.m (3 * i+2))]:=by
   obtain rfl|rfl|rfl:i=0∨i=1∨i=2:=by omega
   ·rfl
   ·rfl
   ·rfl
  have l1:(itoa (g.m (3 * i))).length≤20:=Zz8 (hg.m _ (by omega))
  ((have hd:=trivial;repeat' (first|((first|apply Zad|apply Zac|apply Zab)<;>intro hd<;>(try simp only[hd]))|simp(disch:=first|assumption|omega|(simp only[nx]<;>omega)|fail)only [hd,hQr,hQn,ZkW,↓YA,YB,YC,YE,YF,YZ,sevalprocAttr,f60,f59,f58,f0,f8,f37,f38,f39,f11,hz,hlt,hg',hle,hx3,YZm]))<;>(try (have hd_:True:=hd;clear hd_ hd)))
  refine Zap.use (he _ _) ?_
  rintro r G2 ⟨hx2,tk,rfl⟩
  ((have hd:=trivial;repeat' (first|((first|apply Zad|apply Zac|apply Zab)<;>intro hd<;>(try simp only[hd]))|simp(disch:=first|assumption|omega|(simp only[nx]<;>omega)|fail)only [hd,hQr,hQn,ZkW,↓YA,YB,YC,YE,YF,YZ,sevalprocAttr,f60,f59,f58,f0,f8,f37,f38,f39,f11,YZm]))<;>(try (have hd_:True:=hd;clear hd_ hd)))
  (refine Zap.use (hj tk _) ?_;rintro _ _ ⟨rfl,k2,rfl⟩)
  have ha1:(⟨#[32]⟩:ByteArray)++⟨(ZAg g i).toArray⟩=⟨(32 :: ZAg g i).toArray⟩:=Zz9 [32] (ZAg g i)
  have ha2:(⟨(s0++ZAf g i).toArray⟩:ByteArray)++⟨(32 :: ZAg g i).toArray⟩=⟨(s0++ZAf g i++32 :: ZAg g i).toArray⟩:=Zz9 (s0++ZAf g i) (32 :: ZAg g i)
  have hf1:1+(ZAg g i).length≤maxLen:=ZAp (by omega)
  have hf2:(s0++ZAf g i).length+((ZAg g i).length+1)≤maxLen:=ZAp (by simp only[List.length_append];omega)
  ((have hd:=trivial;repeat' (first|((first|apply Zad|apply Zac|apply Zab)<;>intro hd<;>(try simp only[hd]))|simp(disch:=first|assumption|omega|(simp only[nx]<;>omega)|fail)only [hd,hQr,hQn,ZkW,↓YA,YB,YC,YE,YF,YZ,sevalprocAttr,f60,f59,f58,f0,f8,f37,f38,f39,f11,ha1,ha2,hf1,hf2]))<;>(try (have hd_:True:=hd;clear hd_ hd)))
  exact⟨by rw[hsn,List.append_assoc],(hx.trans ((Zaa.Ext.refl G').alloc.trans hx2)).bump⟩
 ·rintro F G' ⟨f60,f59,f58,f0,f8,f37,f38,f39,f11,hx⟩
  skip
  ((have hd:=trivial;repeat' (first|((first|apply Zad|apply Zac|apply Zab)<;>intro hd<;>(try simp only[hd]))|simp(disch:=first|assumption|omega|(simp only[nx]<;>omega)|fail)only [hd,hQr,hQn,ZkW,↓YA,YB,YC,YE,YF,YZ,sevalprocAttr]))<;>(try (have hd_:True:=hd;clear hd_ hd)))
  exact hQ _ _ hx (by simpa [Fr.get] using f0) (by simpa [Fr.get] using f8) (by simpa [Fr.get] using f37) (by simpa [Fr.get] using f38) (by simpa [Fr.get] using f39) (by simpa [Fr.get] using f11)
theorem ZAK {ms:Int} {g:Grp} (h:GrOk g):(ZAd ms g).length≤4000∧([32,32]++ZAc g.keys++[61]++itoa g.count).length≤3100:=by
 have h1:=ZAl h.len h.sum
 have h2:=Zz8 h.cnt
 have h3:=ZAk h (nMs ms) (by unfold nMs;omega)
 have h4:nMs ms≤3:=by unfold nMs;omega
 unfold ZAd
 simp only[List.length_append,List.length_cons,List.length_nil]
 constructor<;>omega
theorem ZAW {l:List Grp} {k:Nat} (h:k<l.length):(rG l)[k]?=some (eGr l[k]):=by simp[h]
theorem ZAF {ms:Int} {l:List Grp} {k:Nat} (h:k<l.length) (x:List Tx):rS (x++(l.take k).map (ZAd ms))++[[eS (ZAd ms l[k])]]=rS (x++(l.take (k+1)).map (ZAd ms)):=by
 rw[List.take_succ_eq_append_getElem h,List.map_append,← List.append_assoc]
 unfold rS
 rw[List.map_append (l₁:=x++List.map (ZAd ms) (List.take k l))]
 rfl
set_option maxHeartbeats 8000000 in
theorem ZAt {Q:AEx→Fr→Zaa→Prop} {F:Fr} {H G:Zaa} {ms:Int} {t1:Tok} {gs:List Grp} {h0:Tx} (hg:gs.length≤60) (hgs:∀g∈gs,GrOk g)
  (f0:Fr.get F 0=.i ms) (f8:Fr.get F 8=.sl .full [[eS h0]]) (f37:Fr.get F 37=.sl t1 (rG gs)) (f38:Fr.get F 38=.i (gs.length:Int)) (f39:Fr.get F 39=.i 0) (hx0:Zaa.Ext H G)
  (hQ:∀F' G' tok,Zaa.Ext H G'→Fr.get F' 8=.sl tok (rS (h0 :: gs.map (ZAd ms)))→Q .normal F' G'):AW Tryz.prog c15_2 Q F G:=by
 have hQr:=trivial
 have hQn:=trivial
 refine ZbJ (N:=gs.length) (fun k F G'=>Fr.get F 39=.i (k:Int)∧Fr.get F 38=.i (gs.length:Int)∧Fr.get F 37=.sl t1 (rG gs)∧Fr.get F 0=.i ms∧Zaa.Ext H G'∧∃tok,Fr.get F 8=.sl tok (rS ([h0]++(gs.take k).map (ZAd ms)))∧TokA H.next G' 9 1 (k+1) tok) (by unfold maxLen;omega) (fun k F G h=>⟨h.1,h.2.1⟩) (GStep.refl _ _) ⟨f39,f38,f37,f0,hx0,.full,by rw[f8];rfl,.inl rfl⟩ ?_ ?_
 ·rintro k F G' hk ⟨f39,f38,f37,f0,hx,tok,f8,hT⟩
  have hz:(0:Int)≤(k:Int):=by omega
  have hr:=ZAW hk
  have hgo:=hgs _ (List.getElem_mem hk)
  have hsn:=ZAF (ms:=ms) hk [h0]
  have hrl:(rS ([h0]++(gs.take k).map (ZAd ms))).length=k+1:=by simp;omega
  have hal:ZaE 1 (rS ([h0]++(gs.take k).map (ZAd ms)))=true:=ZaU (f:=fun s:Tx=>[eS s]) (sz:=1) (fun _=>rfl) _
  have hm1:k+1+1≤maxLen:=ZAp (by omega)
  have hm2:(k+1+1) * 16≤140737488355328:=by omega
  generalize hR1:rS ([h0]++(gs.take (k+1)).map (ZAd ms))=R1 at *
  generalize hout:[h0]++(gs.take k).map (ZAd ms)=out at *
  generalize gs[k]=g at *
  obtain⟨e0,e1,e2,e3⟩:=ZAq g
  obtain⟨hll,hls⟩:=ZAK (ms:=ms) hgo
  have hwl:=ZAl hgo.len hgo.sum
  have hil:=Zz8 hgo.cnt
  have hw:∀t H,Zay Tryz.prog 34 [.sl t (rS g.keys)] H (Pure H (eS (ZAc g.keys))):=fun t H=>ZAE t g.keys H (by have:=hgo.len;omega) (by have:=hgo.sum;omega)
  have hf:∀H,Zay Tryz.prog 35 [.i g.count,.i 10] H (Pure H (eS (itoa g.count))):=fun H=>Same.pure (Zzz _ H hgo.cnt.1 hgo.cnt.2)
  have hal2:ZaE 1 [[eS (ZAd ms g)]]=true:=rfl
  skip
  ((have hd:=trivial;repeat' (first|((first|apply Zad|apply Zac|apply Zab)<;>intro hd<;>(try simp only[hd]))|simp(disch:=first|assumption|omega|(simp only[nx]<;>omega)|fail)only [hd,hQr,hQn,ZkW,↓YA,YB,YC,YE,YF,YZ,sevalprocAttr,f39,f38,f37,f0,f8,hz,hr,e0,e1,e2,e3,YZm]))<;>(try (have hd_:True:=hd;clear hd_ hd)))
  have g1:(G'.alloc (.cells (eGr g) 46)).get G'.next=some (.cells (eGr g) 46):=Zaa.Zae
  have hx1:Zaa.Ext H (G'.alloc (.cells (eGr g) 46)):=hx.alloc
  have hT1:TokA H.next (G'.alloc (.cells (eGr g) 46)) 9 1 (k+1) tok:=by
   rcases hT with h|⟨t',ht,h,hgt⟩
   ·exact .inl h
   ·exact .inr ⟨t',ht,h,(Zaa.ZbA (Zaa.lt hgt)).trans hgt⟩
  generalize G'.alloc (.cells (eGr g) 46)=G1 at *
  generalize G'.next=ig at *
  (refine Zap.use (hw .no _) ?_;rintro _ _ ⟨rfl,k1,rfl⟩)
  obtain⟨A1,hA1⟩:∃A1,A1=[32,32]++ZAc g.keys:=⟨_,rfl⟩
  obtain⟨A2,hA2⟩:∃A2,A2=A1++[61]:=⟨_,rfl⟩
  obtain⟨s0,hs0⟩:∃s0,s0=A2++itoa g.count:=⟨_,rfl⟩
  have la1:A1.length=2+(ZAc g.keys).length:=by rw[hA1,List.length_append];rfl
  have la2:A2.length=A1.length+1:=by rw[hA2,List.length_append];rfl
  have la3:s0.length=A2.length+(itoa g.count).length:=by rw[hs0,List.length_append]
  have ha1:(⟨#[32,32]⟩:ByteArray)++⟨(ZAc g.keys).toArray⟩=⟨A1.toArray⟩:=by rw[hA1];exact Zz9 [32,32] (ZAc g.keys)
  have ha2:(⟨A1.toArray⟩:ByteArray)++⟨#[61]⟩=⟨A2.toArray⟩:=by rw[hA2];exact Zz9 A1 [61]
  have ha3:(⟨A2.toArray⟩:ByteArray)++⟨(itoa g.count).toArray⟩=⟨s0.toArray⟩:=by rw[hs0];exact Zz9 A2 (itoa g.count)
  have hlb:ZAd ms g=s0++ZAf g (nMs ms):=by rw[hs0,hA2,hA1];rfl
  have hb1:2+(ZAc g.keys).length≤maxLen:=ZAp (by omega)
  have hb2:A1.length+1≤maxLen:=ZAp (by omega)
  have hb3:A2.length+(itoa g.count).length≤maxLen:=ZAp (by omega)
  have hmm:=mm3 ms
  ((have hd:=trivial;repeat' (first|((first|apply Zad|apply Zac|apply Zab)<;>intro hd<;>(try simp only[hd]))|simp(disch:=first|assumption|omega|(simp only[nx]<;>omega)|fail)only [hd,hQr,hQn,ZkW,↓YA,YB,YC,YE,YF,YZ,sevalprocAttr,f39,f38,f37,f0,f8,e0,e1,e2,e3,g1,ha1,ha2,hb1,hb2]))<;>(try (have hd_:True:=hd;clear hd_ hd)))
  (refine Zap.use (hf _) ?_;rintro _ _ ⟨rfl,k2,rfl⟩)
  have hn3:nMs ms≤3:=by unfold nMs;omega
  have hnz:(0:Int)≤((nMs ms:Nat):Int):=by omega
  have hnt:(((nMs ms:Nat):Int)).toNat=nMs ms:=by omega
  have hcn:(0≤nMs ms∧3≤maxLen)=True:=by rw[eq_iff_iff,iff_true];exact⟨Nat.zero_le _,ZAp (by omega)⟩
  generalize nMs ms=n at *
  ((have hd:=trivial;repeat' (first|((first|apply Zad|apply Zac|apply Zab)<;>intro hd<;>(try simp only[hd]))|simp(disch:=first|assumption|omega|(simp only[nx]<;>omega)|fail)only [hd,hQr,hQn,ZkW,↓YA,YB,YC,YE,YF,YZ,sevalprocAttr,f39,f38,f37,f0,f8,e0,e1,e2,e3,g1,ha1,ha2,ha3,hb1,hb2,hb3,hmm,Zdi,hnz,hnt,hn3,hcn,Nat.sub_zero]))<;>(try (have hd_:True:=hd;clear hd_ hd)))
  refine ans_meas (ig:=ig) (g:=g) (n:=n) (k:=k) (N:=gs.length) (cap:=3) hgo hn3 (by omega) f0 f8 f37 f38 f39 rfl rfl rfl rfl g1 ?_
  intro F2 G2 hx2 f0 f8 f37 f38 f39 f11
  rw[← hlb]at f11
  have hx3:Zaa.Ext H G2:=hx1.trans (((Zaa.Ext.refl G1).bump.bump).trans hx2)
  rcases hT1 with rfl|⟨t',ht,rfl,hgt⟩
  ·((have hd:=trivial;repeat' (first|((first|apply Zad|apply Zac|apply Zab)<;>intro hd<;>(try simp only[hd]))|simp(disch:=first|assumption|omega|(simp only[nx]<;>omega)|fail)only [hd,hQr,hQn,ZkW,↓YA,YB,YC,YE,YF,YZ,sevalprocAttr,f0,f8,f37,f38,f39,f11,hrl,hal,hal2,hm1,hm2,hsn]))<;>(try (have hd_:True:=hd;clear hd_ hd)))
   have hnx:=hx3.next
   exact⟨hx3.alloc,_,by rw[← hR1];rfl,.inr ⟨_,hnx,rfl,Zaa.Zae⟩⟩
  ·have hgt2:=hx2.get _ _ hgt
   ((have hd:=trivial;repeat' (first|((first|apply Zad|apply Zac|apply Zab)<;>intro hd<;>(try simp only[hd]))|simp(disch:=first|assumption|omega|(simp only[nx]<;>omega)|fail)only [hd,hQr,hQn,ZkW,↓YA,YB,YC,YE,YF,YZ,sevalprocAttr,f0,f8,f37,f38,f39,f11,hrl,hal,hal2,hm1,hm2,hsn,hgt2]))<;>(try (have hd_:True:=hd;clear hd_ hd)))
   exact⟨hx3.set ht,_,by rw[← hR1];rfl,.inr ⟨t',ht,rfl,Zaa.Zal (Zaa.lt hgt2)⟩⟩
 ·rintro F G' ⟨f39,f38,f37,f0,hx,tok,f8,hT⟩
  rw[List.take_length]at f8
  skip
  ((have hd:=trivial;repeat' (first|((first|apply Zad|apply Zac|apply Zab)<;>intro hd<;>(try simp only[hd]))|simp(disch:=first|assumption|omega|(simp only[nx]<;>omega)|fail)only [hd,hQr,hQn,ZkW,↓YA,YB,YC,YE,YF,YZ,sevalprocAttr]))<;>(try (have hd_:True:=hd;clear hd_ hd)))
  exact hQ _ _ tok hx (by simpa [Fr.get] using f8)
set_option maxHeartbeats 4000000 in
theorem ZAx (ms err:Int) (gs:List Grp) (nums:List Int) (t1 t2:Tok) (H:Zaa) (hg:gs.length≤60) (hn:nums.length≤60) (hgs:∀g∈gs,GrOk g) (hns:∀n∈nums,InI n) (he:InI err) :
  Zay Tryz.prog 15 [.i ms,.agg [.i err,.sl t1 (rG gs),.sl t2 (rI nums)]] H (SlQ (ZAa ms err gs nums) H):=by
 have hi:∀n H,InI n→Zay Tryz.prog 33 [.i n] H (Pure H (eS (itoa n))):=fun n H h=>Same.pure (ZAB n H h.1 h.2)
 have g0:(H.alloc (.cells [.i err,.sl t1 (rG gs),.sl t2 (rI nums)] 38)).get H.next=some (.cells [.i err,.sl t1 (rG gs),.sl t2 (rI nums)] 38):=Zaa.Zae
 have hx0:Zaa.Ext H (H.alloc (.cells [.i err,.sl t1 (rG gs),.sl t2 (rI nums)] 38)):=(Zaa.Ext.refl H).alloc
 have hil:=Zz8 he
 by_cases hz:err=0
 ·have dz:(err != 0)=false:=by simp[hz]
  have hh:ZAa ms err gs nums=([111,107]++ZAe nums) :: gs.map (ZAd ms):=by unfold ZAa ZAY;rw[if_pos hz]
  rw[hh]
  refine Zak hE cf15 (Nat.le_of_ble_eq_true rfl) fun Q hQr hQn=>?_
  ((have hd:=trivial;repeat' (first|((first|apply Zad|apply Zac|apply Zab)<;>intro hd<;>(try simp only[hd]))|simp(disch:=first|assumption|omega|(simp only[nx]<;>omega)|fail)only [hd,hQr,hQn,ZkW,↓YA,YB,YC,YE,YF,YZ,sevalprocAttr,dz,List.length_map]))<;>(try (have hd_:True:=hd;clear hd_ hd)))
  refine ZAL (h0:=[111,107]) hn hns (by simp) rfl rfl rfl rfl rfl rfl ?_
  intro F1 G1 hx1 f0 f3 f5
  have g1:=hx1.get _ _ g0
  ((have hd:=trivial;repeat' (first|((first|apply Zad|apply Zac|apply Zab)<;>intro hd<;>(try simp only[hd]))|simp(disch:=first|assumption|omega|(simp only[nx]<;>omega)|fail)only [hd,hQr,hQn,ZkW,↓YA,YB,YC,YE,YF,YZ,sevalprocAttr,f0,f3,f5,g1,List.length_map]))<;>(try (have hd_:True:=hd;clear hd_ hd)))
  refine ZAt (H:=H) (h0:=[111,107]++ZAe nums) hg hgs (by simpa [Fr.get] using f0) rfl rfl rfl rfl (hx0.trans hx1) ?_
  intro F2 G2 tok hx2 f8
  ((have hd:=trivial;repeat' (first|((first|apply Zad|apply Zac|apply Zab)<;>intro hd<;>(try simp only[hd]))|simp(disch:=first|assumption|omega|(simp only[nx]<;>omega)|fail)only [hd,hQr,hQn,ZkW,↓YA,YB,YC,YE,YF,YZ,sevalprocAttr,f8]))<;>(try (have hd_:True:=hd;clear hd_ hd)))
  exact Zaq ⟨hx2,tok,rfl⟩
 ·have dz:(err != 0)=true:=by simp[hz]
  have hh:ZAa ms err gs nums=([101,114,114,111,114,32]++itoa err++ZAe nums) :: gs.map (ZAd ms):=by unfold ZAa ZAY;rw[if_neg hz]
  have ha:(⟨#[101,114,114,111,114,32]⟩:ByteArray)++⟨(itoa err).toArray⟩=⟨([101,114,114,111,114,32]++itoa err).toArray⟩:=Zz9 [101,114,114,111,114,32] (itoa err)
  have hb:6+(itoa err).length≤maxLen:=ZAp (by omega)
  have hlh:([101,114,114,111,114,32]++itoa err).length≤26:=by rw[List.length_append];simp only[List.length_cons,List.length_nil];omega
  rw[hh]
  generalize [101,114,114,111,114,32]++itoa err=E at *
  refine Zak hE cf15 (Nat.le_of_ble_eq_true rfl) fun Q hQr hQn=>?_
  ((have hd:=trivial;repeat' (first|((first|apply Zad|apply Zac|apply Zab)<;>intro hd<;>(try simp only[hd]))|simp(disch:=first|assumption|omega|(simp only[nx]<;>omega)|fail)only [hd,hQr,hQn,ZkW,↓YA,YB,YC,YE,YF,YZ,sevalprocAttr,dz,List.length_map]))<;>(try (have hd_:True:=hd;clear hd_ hd)))
  (refine Zap.use (hi err _ he) ?_;rintro _ _ ⟨rfl,k1,rfl⟩)
  ((have hd:=trivial;repeat' (first|((first|apply Zad|apply Zac|apply Zab)<;>intro hd<;>(try simp only[hd]))|simp(disch:=first|assumption|omega|(simp only[nx]<;>omega)|fail)only [hd,hQr,hQn,ZkW,↓YA,YB,YC,YE,YF,YZ,sevalprocAttr,g0,ha,hb,List.length_map]))<;>(try (have hd_:True:=hd;clear hd_ hd)))
  refine ZAL (h0:=E) hn hns hlh rfl rfl rfl rfl rfl rfl ?_
  intro F1 G1 hx1 f0 f3 f5
  have g1:=hx1.get _ _ g0
  ((have hd:=trivial;repeat' (first|((first|apply Zad|apply Zac|apply Zab)<;>intro hd<;>(try simp only[hd]))|simp(disch:=first|assumption|omega|(simp only[nx]<;>omega)|fail)only [hd,hQr,hQn,ZkW,↓YA,YB,YC,YE,YF,YZ,sevalprocAttr,f0,f3,f5,g1,List.length_map]))<;>(try (have hd_:True:=hd;clear hd_ hd)))
  refine ZAt (H:=H) (h0:=E++ZAe nums) hg hgs (by simpa [Fr.get] using f0) rfl rfl rfl rfl ((hx0.bump).trans hx1) ?_
  intro F2 G2 tok hx2 f8
  ((have hd:=trivial;repeat' (first|((first|apply Zad|apply Zac|apply Zab)<;>intro hd<;>(try simp only[hd]))|simp(disch:=first|assumption|omega|(simp only[nx]<;>omega)|fail)only [hd,hQr,hQn,ZkW,↓YA,YB,YC,YE,YF,YZ,sevalprocAttr,f8]))<;>(try (have hd_:True:=hd;clear hd_ hd)))
  exact Zaq ⟨hx2,tok,rfl⟩
open Go.RowKit Go.Lib
set_option maxHeartbeats 4000000 in
theorem ZAD {Q:AEx→Fr→Zaa→Prop} {F:Fr} {G:Zaa} {ms:Int} {ia:Nat} {nums:List Int} {t2:Tok} {h0:Tx} (hn:nums.length≤60) (hns:∀n∈nums,InI n) (hl0:h0.length≤26)
  (f0:Fr.get F 0=.i ms) (f3:Fr.get F 3=.ptr ia 0) (f24:Fr.get F 23=.i 0) (f23:Fr.get F 22=.i (nums.length:Int)) (f22:Fr.get F 21=.sl t2 (rI nums)) (f5:Fr.get F 5=eS h0)
  (hQ:∀F' G',Zaa.Ext G G'→Fr.get F' 0=.i ms→Fr.get F' 3=.ptr ia 0→Fr.get F' 5=eS (h0++ZAe nums)→Q .normal F' G'):AW Tryz.prog c16_1 Q F G:=by
 have hQr:=trivial
 have hQn:=trivial
 refine ZbJ (N:=nums.length) (fun k F G'=>Fr.get F 23=.i (k:Int)∧Fr.get F 22=.i (nums.length:Int)∧Fr.get F 21=.sl t2 (rI nums)∧Fr.get F 0=.i ms∧Fr.get F 3=.ptr ia 0∧Fr.get F 5=eS (h0++ZAe (nums.take k))∧Zaa.Ext G G') (by unfold maxLen;omega) (fun k F G h=>⟨h.1,h.2.1⟩) (GStep.refl _ _) ⟨f24,f23,f22,f0,f3,by rw[f5];simp[ZAe],.refl _⟩ ?_ ?_
 ·rintro k F G' hk ⟨f24,f23,f22,f0,f3,f5,hx⟩
  have hz:(0:Int)≤(k:Int):=by omega
  have hr:(rI nums)[k]?=some [.i nums[k]]:=by simp[hk]
  have hin:=hns _ (List.getElem_mem hk)
  have hsn:=ZAu hk
  have hlen:=ZAh hns hn k
  have hil:=Zz8 hin
  generalize nums[k]=n at *
  generalize hB1:ZAe (nums.take (k+1))=B1 at *
  generalize ZAe (nums.take k)=B0 at *
  obtain⟨A0,hA0⟩:∃A0,A0=h0++B0:=⟨_,rfl⟩
  obtain⟨A1,hA1⟩:∃A1,A1=A0++[32]:=⟨_,rfl⟩
  have la0:A0.length=h0.length+B0.length:=by rw[hA0,List.length_append]
  have la1:A1.length=A0.length+1:=by rw[hA1,List.length_append];rfl
  rw[← hA0]at f5
  have ha1:(⟨A0.toArray⟩:ByteArray)++⟨#[32]⟩=⟨A1.toArray⟩:=by rw[hA1];exact Zz9 A0 [32]
  have ha2:(⟨A1.toArray⟩:ByteArray)++⟨(itoa n).toArray⟩=⟨(A1++itoa n).toArray⟩:=Zz9 A1 (itoa n)
  have hf1:A0.length+1≤maxLen:=ZAp (by omega)
  have hf2:A1.length+(itoa n).length≤maxLen:=ZAp (by omega)
  skip
  ((have hd:=trivial;repeat' (first|((first|apply Zad|apply Zac|apply Zab)<;>intro hd<;>(try simp only[hd]))|simp(disch:=first|assumption|omega|(simp only[nx]<;>omega)|fail)only [hd,hQr,hQn,Zvh,↓YA,YB,YC,YE,YF,YZ,sevalprocAttr,f24,f23,f22,f0,f3,f5,hz,hr,hf1,ha1]))<;>(try (have hd_:True:=hd;clear hd_ hd)))
  (refine Zap.use (ZAb n hin.1 hin.2 _) ?_;rintro _ _ ⟨rfl,k2,rfl⟩)
  ((have hd:=trivial;repeat' (first|((first|apply Zad|apply Zac|apply Zab)<;>intro hd<;>(try simp only[hd]))|simp(disch:=first|assumption|omega|(simp only[nx]<;>omega)|fail)only [hd,hQr,hQn,Zvh,↓YA,YB,YC,YE,YF,YZ,sevalprocAttr,f24,f23,f22,f0,f3,f5,hf1,ha1,hf2,ha2]))<;>(try (have hd_:True:=hd;clear hd_ hd)))
  exact⟨by rw[hB1,hsn,hA1,hA0];simp,hx.bump⟩
 ·rintro F G' ⟨f24,f23,f22,f0,f3,f5,hx⟩
  rw[List.take_length]at f5
  skip
  ((have hd:=trivial;repeat' (first|((first|apply Zad|apply Zac|apply Zab)<;>intro hd<;>(try simp only[hd]))|simp(disch:=first|assumption|omega|(simp only[nx]<;>omega)|fail)only [hd,hQr,hQn,Zvh,↓YA,YB,YC,YE,YF,YZ,sevalprocAttr]))<;>(try (have hd_:True:=hd;clear hd_ hd)))
  exact hQ _ _ hx (by simpa [Fr.get] using f0) (by simpa [Fr.get] using f3) (by simpa [Fr.get] using f5)
theorem meas_eq (g:Grp) (i:Nat):ZAg g i=itoa (g.m (3 * i))++[58]++itoa (g.m (3 * i+1))++[58]++itoa (g.m (3 * i+2)):=by
 unfold ZAg
 rw[Lib.join_cons]
 simp[Lib.joinTail]
set_option maxHeartbeats 8000000 in
theorem ZAR {Q : AEx → Fr → Zaa → Prop} {F : Fr} {G : Zaa} {ms : Int} {ig n : Nat} {g : Grp} {tok t1 : Tok} {out : List Tx} {gs : List Grp} {k N : Nat} (hg : GrOk g) (hnm : n = nMs ms) {s0 : Tx} (hl0 : s0.length ≤ 4000)
    (f0 : Fr.get F 0 = .i ms) (f8 : Fr.get F 8 = .sl tok (rS out)) (f37 : Fr.get F 36 = .sl t1 (rG gs)) (f38 : Fr.get F 37 = .i (N : Int)) (f39 : Fr.get F 38 = .i (k : Int)) (f10 : Fr.get F 10 = .ptr ig 0) (f12 : Fr.get F 12 = .i 0) (f11 : Fr.get F 11 = eS s0)
    (hG : G.get ig = some (.cells (eGr g) 46))
    (hQ : ∀ F' G', Zaa.Ext G G' → Fr.get F' 0 = .i ms → Fr.get F' 8 = .sl tok (rS out) → Fr.get F' 36 = .sl t1 (rG gs) → Fr.get F' 37 = .i (N : Int) → Fr.get F' 38 = .i (k : Int) → Fr.get F' 11 = eS (s0 ++ ZAf g n) → Q .normal F' G') : AW Tryz.prog c16_3 Q F G := by
  have hQr := trivial
  have hQn := trivial
  have hn3 : n ≤ 3 := by rw [hnm]; unfold nMs; omega
  refine AW_bl (fun m F G' => ∃ i, i ≤ n ∧ m = n - i ∧ Fr.get F 12 = .i (i : Int) ∧ Fr.get F 10 = .ptr ig 0 ∧ Fr.get F 0 = .i ms ∧ Fr.get F 8 = .sl tok (rS out) ∧ Fr.get F 36 = .sl t1 (rG gs) ∧ Fr.get F 37 = .i (N : Int) ∧ Fr.get F 38 = .i (k : Int) ∧ Fr.get F 11 = eS (s0 ++ ZAf g i) ∧ Zaa.Ext G G') n (GStep.refl _ _) ⟨0, Nat.zero_le _, rfl, f12, f10, f0, f8, f37, f38, f39, by rw [f11]; simp [ZAf], .refl _⟩ ?_
  rintro m F G' ⟨i, hi, rfl, f12, f10, f0, f8, f37, f38, f39, f11, hx⟩
  have hg' := hx.get _ _ hG
  by_cases h : i < n
  · have hm : (i : Int) < ms ∧ i < 3 := by rw [hnm] at h; unfold nMs at h; omega
    have d1 : decide ((i : Int) < 3) = true := by simp; omega
    have d2 : decide ((i : Int) < ms) = true := by simp; omega
    have hz : (0 : Int) ≤ (i : Int) := by omega
    have hi3 : (i : Int) < ((3 : Nat) : Int) := by omega
    have hi4 : (i : Int) < 3 := by omega
    have hw : IntKind.i64.wrap ((i : Int) + 1) = ((i + 1 : Nat) : Int) := by rw [Zaw (by omega) (by omega)]; omega
    have hsn := ZAn g i
    have hme := meas_eq g i
    have htl := ZAk hg i (by omega)
    have hy0 : (eGr g)[2 + i * 3]? = some (.i (g.m (3 * i))) := by obtain rfl | rfl | rfl : i = 0 ∨ i = 1 ∨ i = 2 := by omega
                                                                   all_goals rfl
    have hy1 : (eGr g)[2 + i * 3 + 1]? = some (.i (g.m (3 * i + 1))) := by obtain rfl | rfl | rfl : i = 0 ∨ i = 1 ∨ i = 2 := by omega
                                                                           all_goals rfl
    have hy2 : (eGr g)[2 + i * 3 + 2]? = some (.i (g.m (3 * i + 2))) := by obtain rfl | rfl | rfl : i = 0 ∨ i = 1 ∨ i = 2 := by omega
                                                                           all_goals rfl
    have p0 := hg.m (3 * i) (by omega)
    have p1 := hg.m (3 * i + 1) (by omega)
    have p2 := hg.m (3 * i + 2) (by omega)
    generalize g.m (3 * i) = x0 at *
    generalize g.m (3 * i + 1) = x1 at *
    generalize g.m (3 * i + 2) = x2 at *
    generalize hT1 : ZAf g (i + 1) = T1 at *
    generalize ZAf g i = T0 at *
    have l0 := Zz8 p0
    have l1 := Zz8 p1
    have l2 := Zz8 p2
    obtain ⟨A0, hA0⟩ : ∃ A, A = s0 ++ T0 := ⟨_, rfl⟩
    obtain ⟨A1, hA1⟩ : ∃ A, A = A0 ++ [32] := ⟨_, rfl⟩
    obtain ⟨A2, hA2⟩ : ∃ A, A = A1 ++ itoa x0 := ⟨_, rfl⟩
    obtain ⟨A3, hA3⟩ : ∃ A, A = A2 ++ [58] := ⟨_, rfl⟩
    obtain ⟨A4, hA4⟩ : ∃ A, A = A3 ++ itoa x1 := ⟨_, rfl⟩
    obtain ⟨A5, hA5⟩ : ∃ A, A = A4 ++ [58] := ⟨_, rfl⟩
    obtain ⟨A6, hA6⟩ : ∃ A, A = A5 ++ itoa x2 := ⟨_, rfl⟩
    have la0 : A0.length = s0.length + T0.length := by rw [hA0, List.length_append]
    have la1 : A1.length = A0.length + 1 := by rw [hA1, List.length_append]; rfl
    have la2 : A2.length = A1.length + (itoa x0).length := by rw [hA2, List.length_append]
    have la3 : A3.length = A2.length + 1 := by rw [hA3, List.length_append]; rfl
    have la4 : A4.length = A3.length + (itoa x1).length := by rw [hA4, List.length_append]
    have la5 : A5.length = A4.length + 1 := by rw [hA5, List.length_append]; rfl
    have ha1 : (⟨A0.toArray⟩ : ByteArray) ++ ⟨#[32]⟩ = ⟨A1.toArray⟩ := by rw [hA1]; exact Zz9 A0 [32]
    have ha2 : (⟨A1.toArray⟩ : ByteArray) ++ ⟨(itoa x0).toArray⟩ = ⟨A2.toArray⟩ := by rw [hA2]; exact Zz9 A1 (itoa x0)
    have ha3 : (⟨A2.toArray⟩ : ByteArray) ++ ⟨#[58]⟩ = ⟨A3.toArray⟩ := by rw [hA3]; exact Zz9 A2 [58]
    have ha4 : (⟨A3.toArray⟩ : ByteArray) ++ ⟨(itoa x1).toArray⟩ = ⟨A4.toArray⟩ := by rw [hA4]; exact Zz9 A3 (itoa x1)
    have ha5 : (⟨A4.toArray⟩ : ByteArray) ++ ⟨#[58]⟩ = ⟨A5.toArray⟩ := by rw [hA5]; exact Zz9 A4 [58]
    have ha6 : (⟨A5.toArray⟩ : ByteArray) ++ ⟨(itoa x2).toArray⟩ = ⟨A6.toArray⟩ := by rw [hA6]; exact Zz9 A5 (itoa x2)
    have hb1 : A0.length + 1 ≤ maxLen := ZAp (by omega)
    have hb2 : A1.length + (itoa x0).length ≤ maxLen := ZAp (by omega)
    have hb3 : A2.length + 1 ≤ maxLen := ZAp (by omega)
    have hb4 : A3.length + (itoa x1).length ≤ maxLen := ZAp (by omega)
    have hb5 : A4.length + 1 ≤ maxLen := ZAp (by omega)
    have hb6 : A5.length + (itoa x2).length ≤ maxLen := ZAp (by omega)
    rw [← hA0] at f11
    have hend : A6 = s0 ++ T1 := by rw [hA6, hA5, hA4, hA3, hA2, hA1, hA0, hsn, hme]; simp
    skip
    ((have hd := trivial; repeat' (first | ((first | apply Zad | apply Zac | apply Zab) <;> intro hd <;> (try simp only [hd])) | simp (disch := first | assumption | omega | (simp only [nx] <;> omega) | fail) only [hd, hQr, hQn, Zvh, ↓YA, YB, YC, YE, YF, YZ, sevalprocAttr, f12, f10, f0, f8, f37, f38, f39, f11, d1, d2, hz, hi3, hi4, hg', hy0, hy1, hy2, ha1, hb1])) <;> (try (have hd_ : True := hd; clear hd_ hd)))
    (refine Zap.use (ZAb x0 p0.1 p0.2 _) ?_; rintro _ _ ⟨rfl, k2, rfl⟩)
    ((have hd := trivial; repeat' (first | ((first | apply Zad | apply Zac | apply Zab) <;> intro hd <;> (try simp only [hd])) | simp (disch := first | assumption | omega | (simp only [nx] <;> omega) | fail) only [hd, hQr, hQn, Zvh, ↓YA, YB, YC, YE, YF, YZ, sevalprocAttr, f12, f10, f0, f8, f37, f38, f39, f11, d1, d2, hz, hi3, hi4, hg', hy0, hy1, hy2, ha1, hb1, ha2, hb2, ha3, hb3])) <;> (try (have hd_ : True := hd; clear hd_ hd)))
    (refine Zap.use (ZAb x1 p1.1 p1.2 _) ?_; rintro _ _ ⟨rfl, k3, rfl⟩)
    ((have hd := trivial; repeat' (first | ((first | apply Zad | apply Zac | apply Zab) <;> intro hd <;> (try simp only [hd])) | simp (disch := first | assumption | omega | (simp only [nx] <;> omega) | fail) only [hd, hQr, hQn, Zvh, ↓YA, YB, YC, YE, YF, YZ, sevalprocAttr, f12, f10, f0, f8, f37, f38, f39, f11, d1, d2, hz, hi3, hi4, hg', hy0, hy1, hy2, ha1, hb1, ha2, hb2, ha3, hb3, ha4, hb4, ha5, hb5])) <;> (try (have hd_ : True := hd; clear hd_ hd)))
    (refine Zap.use (ZAb x2 p2.1 p2.2 _) ?_; rintro _ _ ⟨rfl, k4, rfl⟩)
    ((have hd := trivial; repeat' (first | ((first | apply Zad | apply Zac | apply Zab) <;> intro hd <;> (try simp only [hd])) | simp (disch := first | assumption | omega | (simp only [nx] <;> omega) | fail) only [hd, hQr, hQn, Zvh, ↓YA, YB, YC, YE, YF, YZ, sevalprocAttr, f12, f10, f0, f8, f37, f38, f39, f11, d1, d2, hz, hi3, hi4, hg', hy0, hy1, hy2, ha1, hb1, ha2, hb2, ha3, hb3, ha4, hb4, ha5, hb5, ha6, hb6, hw])) <;> (try (have hd_ : True := hd; clear hd_ hd)))
    exact ⟨_, by omega, i + 1, by omega, rfl, rfl, by rw [hT1, ← hend], ((hx.bump).bump).bump⟩
  · have hm : ¬ ((i : Int) < 3 ∧ (i : Int) < ms) := by
      intro hh
      apply h
      rw [hnm]
      unfold nMs
      omega
    have hin : i = n := by omega
    subst hin
    by_cases h3 : i < 3
    · have d1 : decide ((i : Int) < 3) = true := by simp; omega
      have d2 : decide ((i : Int) < ms) = false := by simp; omega
      skip
      ((have hd := trivial; repeat' (first | ((first | apply Zad | apply Zac | apply Zab) <;> intro hd <;> (try simp only [hd])) | simp (disch := first | assumption | omega | (simp only [nx] <;> omega) | fail) only [hd, hQr, hQn, Zvh, ↓YA, YB, YC, YE, YF, YZ, sevalprocAttr, f12, f10, f0, f8, f37, f38, f39, f11, d1, d2])) <;> (try (have hd_ : True := hd; clear hd_ hd)))
      exact hQ _ _ hx (by simpa [Fr.get] using f0) (by simpa [Fr.get] using f8) (by simpa [Fr.get] using f37) (by simpa [Fr.get] using f38) (by simpa [Fr.get] using f39) (by simpa [Fr.get] using f11)
    · have d1 : decide ((i : Int) < 3) = false := by simp; omega
      skip
      ((have hd := trivial; repeat' (first | ((first | apply Zad | apply Zac | apply Zab) <;> intro hd <;> (try simp only [hd])) | simp (disch := first | assumption | omega | (simp only [nx] <;> omega) | fail) only [hd, hQr, hQn, Zvh, ↓YA, YB, YC, YE, YF, YZ, sevalprocAttr, f12, f10, f0, f8, f37, f38, f39, f11, d1])) <;> (try (have hd_ : True := hd; clear hd_ hd)))
      exact hQ _ _ hx (by simpa [Fr.get] using f0) (by simpa [Fr.get] using f8) (by simpa [Fr.get] using f37) (by simpa [Fr.get] using f38) (by simpa [Fr.get] using f39) (by simpa [Fr.get] using f11)
set_option maxHeartbeats 8000000 in
theorem ZAm {Q:AEx→Fr→Zaa→Prop} {F:Fr} {H G:Zaa} {ms:Int} {t1:Tok} {gs:List Grp} {h0:Tx} (hg:gs.length≤60) (hgs:∀g∈gs,GrOk g)
  (f0:Fr.get F 0=.i ms) (f8:Fr.get F 8=.sl .full [[eS h0]]) (f37:Fr.get F 36=.sl t1 (rG gs)) (f38:Fr.get F 37=.i (gs.length:Int)) (f39:Fr.get F 38=.i 0) (hx0:Zaa.Ext H G)
  (hQ:∀F' G' tok,Zaa.Ext H G'→Fr.get F' 8=.sl tok (rS (h0 :: gs.map (ZAd ms)))→Q .normal F' G'):AW Tryz.prog c16_2 Q F G:=by
 have hQr:=trivial
 have hQn:=trivial
 refine ZbJ (N:=gs.length) (fun k F G'=>Fr.get F 38=.i (k:Int)∧Fr.get F 37=.i (gs.length:Int)∧Fr.get F 36=.sl t1 (rG gs)∧Fr.get F 0=.i ms∧Zaa.Ext H G'∧∃tok,Fr.get F 8=.sl tok (rS ([h0]++(gs.take k).map (ZAd ms)))∧TokA H.next G' 9 1 (k+1) tok) (by unfold maxLen;omega) (fun k F G h=>⟨h.1,h.2.1⟩) (GStep.refl _ _) ⟨f39,f38,f37,f0,hx0,.full,by rw[f8];rfl,.inl rfl⟩ ?_ ?_
 ·rintro k F G' hk ⟨f39,f38,f37,f0,hx,tok,f8,hT⟩
  have hz:(0:Int)≤(k:Int):=by omega
  have hr:=ZAW hk
  have hgo:=hgs _ (List.getElem_mem hk)
  have hsn:=ZAF (ms:=ms) hk [h0]
  have hrl:(rS ([h0]++(gs.take k).map (ZAd ms))).length=k+1:=by simp;omega
  have hal:ZaE 1 (rS ([h0]++(gs.take k).map (ZAd ms)))=true:=ZaU (f:=fun s:Tx=>[eS s]) (sz:=1) (fun _=>rfl) _
  have hm1:k+1+1≤maxLen:=ZAp (by omega)
  have hm2:(k+1+1) * 16≤140737488355328:=by omega
  generalize hR1:rS ([h0]++(gs.take (k+1)).map (ZAd ms))=R1 at *
  generalize hout:[h0]++(gs.take k).map (ZAd ms)=out at *
  generalize gs[k]=g at *
  obtain⟨e0,e1,e2,e3⟩:=ZAq g
  obtain⟨hll,hls⟩:=ZAK (ms:=ms) hgo
  have hwl:=ZAl hgo.len hgo.sum
  have hil:=Zz8 hgo.cnt
  have hw:∀t H,Zay Tryz.prog 40 [.sl t (rS g.keys)] H (Pure H (eS (ZAc g.keys))):=fun t H=>ZAA t g.keys H (by have:=hgo.len;omega) (by have:=hgo.sum;omega)
  have hf:∀H,Zay Tryz.prog 39 [.i g.count] H (Pure H (eS (itoa g.count))):=fun H=>ZAb _ hgo.cnt.1 hgo.cnt.2 H
  have hal2:ZaE 1 [[eS (ZAd ms g)]]=true:=rfl
  have hst:List.take 0 [AV.sl .full [],.i 0,.i 0,.i 0,.i 0,.i 0,.i 0,.i 0,.i 0,.i 0,.i 0]++eGr g++List.drop (0+(eGr g).length) [AV.sl .full [],.i 0,.i 0,.i 0,.i 0,.i 0,.i 0,.i 0,.i 0,.i 0,.i 0]=eGr g:=rfl
  skip
  ((have hd:=trivial;repeat' (first|((first|apply Zad|apply Zac|apply Zab)<;>intro hd<;>(try simp only[hd]))|simp(disch:=first|assumption|omega|(simp only[nx]<;>omega)|fail)only [hd,hQr,hQn,Zvh,↓YA,YB,YC,YE,YF,YZ,sevalprocAttr,f39,f38,f37,f0,f8,hz,hr,e0,e1,e2,e3,hst,YZm]))<;>(try (have hd_:True:=hd;clear hd_ hd)))
  have g1:(G'.alloc (.cells (eGr g) 46)).get G'.next=some (.cells (eGr g) 46):=Zaa.Zae
  have hx1:Zaa.Ext H (G'.alloc (.cells (eGr g) 46)):=hx.alloc
  have hT1:TokA H.next (G'.alloc (.cells (eGr g) 46)) 9 1 (k+1) tok:=by
   rcases hT with h|⟨t',ht,h,hgt⟩
   ·exact .inl h
   ·exact .inr ⟨t',ht,h,(Zaa.ZbA (Zaa.lt hgt)).trans hgt⟩
  generalize G'.alloc (.cells (eGr g) 46)=G1 at *
  generalize G'.next=ig at *
  (refine Zap.use (hw .no _) ?_;rintro _ _ ⟨rfl,k1,rfl⟩)
  obtain⟨A1,hA1⟩:∃A1,A1=[32,32]++ZAc g.keys:=⟨_,rfl⟩
  obtain⟨A2,hA2⟩:∃A2,A2=A1++[61]:=⟨_,rfl⟩
  obtain⟨s0,hs0⟩:∃s0,s0=A2++itoa g.count:=⟨_,rfl⟩
  have la1:A1.length=2+(ZAc g.keys).length:=by rw[hA1,List.length_append];rfl
  have la2:A2.length=A1.length+1:=by rw[hA2,List.length_append];rfl
  have la3:s0.length=A2.length+(itoa g.count).length:=by rw[hs0,List.length_append]
  have ha1:(⟨#[32,32]⟩:ByteArray)++⟨(ZAc g.keys).toArray⟩=⟨A1.toArray⟩:=by rw[hA1];exact Zz9 [32,32] (ZAc g.keys)
  have ha2:(⟨A1.toArray⟩:ByteArray)++⟨#[61]⟩=⟨A2.toArray⟩:=by rw[hA2];exact Zz9 A1 [61]
  have ha3:(⟨A2.toArray⟩:ByteArray)++⟨(itoa g.count).toArray⟩=⟨s0.toArray⟩:=by rw[hs0];exact Zz9 A2 (itoa g.count)
  have hlb:ZAd ms g=s0++ZAf g (nMs ms):=by rw[hs0,hA2,hA1];rfl
  have hb1:2+(ZAc g.keys).length≤maxLen:=ZAp (by omega)
  have hb2:A1.length+1≤maxLen:=ZAp (by omega)
  have hb3:A2.length+(itoa g.count).length≤maxLen:=ZAp (by omega)
  ((have hd:=trivial;repeat' (first|((first|apply Zad|apply Zac|apply Zab)<;>intro hd<;>(try simp only[hd]))|simp(disch:=first|assumption|omega|(simp only[nx]<;>omega)|fail)only [hd,hQr,hQn,Zvh,↓YA,YB,YC,YE,YF,YZ,sevalprocAttr,f39,f38,f37,f0,f8,e0,e1,e2,e3,g1,ha1,ha2,hb1,hb2]))<;>(try (have hd_:True:=hd;clear hd_ hd)))
  (refine Zap.use (hf _) ?_;rintro _ _ ⟨rfl,k2,rfl⟩)
  ((have hd:=trivial;repeat' (first|((first|apply Zad|apply Zac|apply Zab)<;>intro hd<;>(try simp only[hd]))|simp(disch:=first|assumption|omega|(simp only[nx]<;>omega)|fail)only [hd,hQr,hQn,Zvh,↓YA,YB,YC,YE,YF,YZ,sevalprocAttr,f39,f38,f37,f0,f8,e0,e1,e2,e3,g1,ha1,ha2,ha3,hb1,hb2,hb3]))<;>(try (have hd_:True:=hd;clear hd_ hd)))
  refine ZAR (ig:=ig) (g:=g) (k:=k) (N:=gs.length) hgo rfl (s0:=s0) (by omega) f0 f8 f37 f38 f39 rfl rfl rfl g1 ?_
  intro F2 G2 hx2 f0 f8 f37 f38 f39 f11
  rw[← hlb]at f11
  have hx3:Zaa.Ext H G2:=hx1.trans (((Zaa.Ext.refl G1).bump.bump).trans hx2)
  rcases hT1 with rfl|⟨t',ht,rfl,hgt⟩
  ·((have hd:=trivial;repeat' (first|((first|apply Zad|apply Zac|apply Zab)<;>intro hd<;>(try simp only[hd]))|simp(disch:=first|assumption|omega|(simp only[nx]<;>omega)|fail)only [hd,hQr,hQn,Zvh,↓YA,YB,YC,YE,YF,YZ,sevalprocAttr,f0,f8,f37,f38,f39,f11,hrl,hal,hal2,hm1,hm2,hsn]))<;>(try (have hd_:True:=hd;clear hd_ hd)))
   have hnx:=hx3.next
   exact⟨hx3.alloc,_,by rw[← hR1];rfl,.inr ⟨_,hnx,rfl,Zaa.Zae⟩⟩
  ·have hgt2:=hx2.get _ _ hgt
   ((have hd:=trivial;repeat' (first|((first|apply Zad|apply Zac|apply Zab)<;>intro hd<;>(try simp only[hd]))|simp(disch:=first|assumption|omega|(simp only[nx]<;>omega)|fail)only [hd,hQr,hQn,Zvh,↓YA,YB,YC,YE,YF,YZ,sevalprocAttr,f0,f8,f37,f38,f39,f11,hrl,hal,hal2,hm1,hm2,hsn,hgt2]))<;>(try (have hd_:True:=hd;clear hd_ hd)))
   exact⟨hx3.set ht,_,by rw[← hR1];rfl,.inr ⟨t',ht,rfl,Zaa.Zal (Zaa.lt hgt2)⟩⟩
 ·rintro F G' ⟨f39,f38,f37,f0,hx,tok,f8,hT⟩
  rw[List.take_length]at f8
  skip
  ((have hd:=trivial;repeat' (first|((first|apply Zad|apply Zac|apply Zab)<;>intro hd<;>(try simp only[hd]))|simp(disch:=first|assumption|omega|(simp only[nx]<;>omega)|fail)only [hd,hQr,hQn,Zvh,↓YA,YB,YC,YE,YF,YZ,sevalprocAttr]))<;>(try (have hd_:True:=hd;clear hd_ hd)))
  exact hQ _ _ tok hx (by simpa [Fr.get] using f8)
set_option maxHeartbeats 4000000 in
theorem ZAv (ms err:Int) (gs:List Grp) (nums:List Int) (t1 t2:Tok) (H:Zaa) (hg:gs.length≤60) (hn:nums.length≤60) (hgs:∀g∈gs,GrOk g) (hns:∀n∈nums,InI n) (he:InI err) :
  Zay Tryz.prog 16 [.i ms,.agg [.i err,.sl t1 (rG gs),.sl t2 (rI nums)]] H (SlQ (ZAa ms err gs nums) H):=by
 have g0:(H.alloc (.cells [.i err,.sl t1 (rG gs),.sl t2 (rI nums)] 38)).get H.next=some (.cells [.i err,.sl t1 (rG gs),.sl t2 (rI nums)] 38):=Zaa.Zae
 have hx0:Zaa.Ext H (H.alloc (.cells [.i err,.sl t1 (rG gs),.sl t2 (rI nums)] 38)):=(Zaa.Ext.refl H).alloc
 have hil:=Zz8 he
 by_cases hz:err=0
 ·have dz:(err != 0)=false:=by simp[hz]
  have hh:ZAa ms err gs nums=([111,107]++ZAe nums) :: gs.map (ZAd ms):=by unfold ZAa ZAY;rw[if_pos hz]
  rw[hh]
  refine Zak hE cf16 (Nat.le_of_ble_eq_true rfl) fun Q hQr hQn=>?_
  ((have hd:=trivial;repeat' (first|((first|apply Zad|apply Zac|apply Zab)<;>intro hd<;>(try simp only[hd]))|simp(disch:=first|assumption|omega|(simp only[nx]<;>omega)|fail)only [hd,hQr,hQn,Zvh,↓YA,YB,YC,YE,YF,YZ,sevalprocAttr,dz,List.length_map]))<;>(try (have hd_:True:=hd;clear hd_ hd)))
  refine ZAD (h0:=[111,107]) hn hns (by simp) rfl rfl rfl rfl rfl rfl ?_
  intro F1 G1 hx1 f0 f3 f5
  have g1:=hx1.get _ _ g0
  ((have hd:=trivial;repeat' (first|((first|apply Zad|apply Zac|apply Zab)<;>intro hd<;>(try simp only[hd]))|simp(disch:=first|assumption|omega|(simp only[nx]<;>omega)|fail)only [hd,hQr,hQn,Zvh,↓YA,YB,YC,YE,YF,YZ,sevalprocAttr,f0,f3,f5,g1,List.length_map]))<;>(try (have hd_:True:=hd;clear hd_ hd)))
  refine ZAm (H:=H) (h0:=[111,107]++ZAe nums) hg hgs (by simpa [Fr.get] using f0) rfl rfl rfl rfl (hx0.trans hx1) ?_
  intro F2 G2 tok hx2 f8
  ((have hd:=trivial;repeat' (first|((first|apply Zad|apply Zac|apply Zab)<;>intro hd<;>(try simp only[hd]))|simp(disch:=first|assumption|omega|(simp only[nx]<;>omega)|fail)only [hd,hQr,hQn,Zvh,↓YA,YB,YC,YE,YF,YZ,sevalprocAttr,f8]))<;>(try (have hd_:True:=hd;clear hd_ hd)))
  exact Zaq ⟨hx2,tok,rfl⟩
 ·have dz:(err != 0)=true:=by simp[hz]
  have hh:ZAa ms err gs nums=([101,114,114,111,114,32]++itoa err++ZAe nums) :: gs.map (ZAd ms):=by unfold ZAa ZAY;rw[if_neg hz]
  have ha:(⟨#[101,114,114,111,114,32]⟩:ByteArray)++⟨(itoa err).toArray⟩=⟨([101,114,114,111,114,32]++itoa err).toArray⟩:=Zz9 [101,114,114,111,114,32] (itoa err)
  have hb:6+(itoa err).length≤maxLen:=ZAp (by omega)
  have hlh:([101,114,114,111,114,32]++itoa err).length≤26:=by rw[List.length_append];simp only[List.length_cons,List.length_nil];omega
  rw[hh]
  generalize [101,114,114,111,114,32]++itoa err=E at *
  refine Zak hE cf16 (Nat.le_of_ble_eq_true rfl) fun Q hQr hQn=>?_
  ((have hd:=trivial;repeat' (first|((first|apply Zad|apply Zac|apply Zab)<;>intro hd<;>(try simp only[hd]))|simp(disch:=first|assumption|omega|(simp only[nx]<;>omega)|fail)only [hd,hQr,hQn,Zvh,↓YA,YB,YC,YE,YF,YZ,sevalprocAttr,dz,List.length_map]))<;>(try (have hd_:True:=hd;clear hd_ hd)))
  (refine Zap.use (ZAb err he.1 he.2 _) ?_;rintro _ _ ⟨rfl,k1,rfl⟩)
  ((have hd:=trivial;repeat' (first|((first|apply Zad|apply Zac|apply Zab)<;>intro hd<;>(try simp only[hd]))|simp(disch:=first|assumption|omega|(simp only[nx]<;>omega)|fail)only [hd,hQr,hQn,Zvh,↓YA,YB,YC,YE,YF,YZ,sevalprocAttr,g0,ha,hb,List.length_map]))<;>(try (have hd_:True:=hd;clear hd_ hd)))
  refine ZAD (h0:=E) hn hns hlh rfl rfl rfl rfl rfl rfl ?_
  intro F1 G1 hx1 f0 f3 f5
  have g1:=hx1.get _ _ g0
  ((have hd:=trivial;repeat' (first|((first|apply Zad|apply Zac|apply Zab)<;>intro hd<;>(try simp only[hd]))|simp(disch:=first|assumption|omega|(simp only[nx]<;>omega)|fail)only [hd,hQr,hQn,Zvh,↓YA,YB,YC,YE,YF,YZ,sevalprocAttr,f0,f3,f5,g1,List.length_map]))<;>(try (have hd_:True:=hd;clear hd_ hd)))
  refine ZAm (H:=H) (h0:=E++ZAe nums) hg hgs (by simpa [Fr.get] using f0) rfl rfl rfl rfl ((hx0.bump).trans hx1) ?_
  intro F2 G2 tok hx2 f8
  ((have hd:=trivial;repeat' (first|((first|apply Zad|apply Zac|apply Zab)<;>intro hd<;>(try simp only[hd]))|simp(disch:=first|assumption|omega|(simp only[nx]<;>omega)|fail)only [hd,hQr,hQn,Zvh,↓YA,YB,YC,YE,YF,YZ,sevalprocAttr,f8]))<;>(try (have hd_:True:=hd;clear hd_ hd)))
  exact Zaq ⟨hx2,tok,rfl⟩
open Go.RowKit Go.Lib
theorem ZnX {a b:Nat} (h:((a:Int) != (b:Int))=true):a≠b:=by intro e;subst e;simp at h
theorem Zn4 {a b:Nat} (h:((a:Int) != (b:Int))=false):a=b:=by simp at h;omega
def Zc8 {α:Type} (e:α→α→Bool):List α→List α→Bool
 | [],[]=>true
 | a :: l,b :: m=>e a b&&Zc8 e l m
 | _,_=>false
theorem Zia {α:Type} {e:α→α→Bool}:∀{l m:List α},l.length≠m.length→Zc8 e l m=false
 | [],[],h=>absurd rfl h
 | [],_ :: _,_=>rfl
 | _ :: _,[],_=>rfl
 | a :: l,b :: m,h=>by
  simp only[Zc8,Zia (l:=l) (m:=m) (by simpa using h),Bool.and_false]
theorem Zji {α:Type} {e:α→α→Bool} {l m:List α} {k:Nat} (h:k<l.length) (h2:k<m.length):Zc8 e (l.drop k) (m.drop k)=(e l[k] m[k]&&Zc8 e (l.drop (k+1)) (m.drop (k+1))):=by
 rw[List.drop_eq_getElem_cons h,List.drop_eq_getElem_cons h2];rfl
theorem ZkO {α:Type} {e:α→α→Bool} {l m:List α} {k:Nat} (h:l.length≤k) (h2:m.length≤k):Zc8 e (l.drop k) (m.drop k)=true:=by
 rw[List.drop_of_length_le h,List.drop_of_length_le h2];rfl
theorem Zhz {α:Type} [DecidableEq α]:∀{l m:List α},Zc8 (fun a b=>decide (a=b)) l m=decide (l=m)
 | [],[]=>by simp[Zc8]
 | [],_ :: _=>by simp[Zc8]
 | _ :: _,[]=>by simp[Zc8]
 | a :: l,b :: m=>by rw[Bool.eq_iff_iff];simp[Zc8,Zhz (l:=l) (m:=m)]
theorem ZAH (t u:Tok) (a b:List Tx) (H:Zaa) (hl:a.length≤1000000):Zay Tryz.prog 14 [.sl t (rS a),.sl u (rS b)] H (Pure H (.b (decide (a=b)))):=by
 rw[← Zhz]
 refine Zak hE cf14 (Nat.le_of_ble_eq_true rfl) fun Q hQr hQn=>?_
 ((have hd:=trivial;repeat' (first|((first|apply Zad|apply Zac|apply Zab)<;>intro hd<;>(try simp only[hd]))|simp(disch:=first|assumption|omega|(simp only[nx]<;>omega)|fail)only [hd,hQr,hQn,Zew,↓YA,YB,YC,YE,YF,YZ,sevalprocAttr,List.length_map]))<;>(try (have hd_:True:=hd;clear hd_ hd)))
 ·refine ZbC (by rw[Zia (ZnX hd)])
 ·have hab:=Zn4 hd
  generalize hT:Zc8 (fun x y=>decide (x=y)) a b=T at *
  refine Zbs [0,1,12] (σ:=Unit) (fun(k:Nat) s=>T=Zc8 (fun x y=>decide (x=y)) (a.drop k) (b.drop k)) (fun k s=>[]) (fun k s=>[]) () (GStep.refl _ _) (by simp only[ZaA,Zav,Fr.put,Fr.get,↓reduceIte,Nat.reduceEqDiff];rfl) (by intro k s;rfl) (by intro k s;rfl) (by rfl) (by unfold maxLen;omega) ?_ (by simp only[ZaF]) (by simp only[ZaJ]) ?_ ?_
  ·exact hT.symm
  ·(rintro k s G hk ht hG hn;try simp only[nx]at hn)
   have hk2:k<b.length:=hab ▸ hk
   rw[Zji hk hk2]at ht
   ((have hd:=trivial;repeat' (first|((first|apply Zad|apply Zac|apply Zab)<;>intro hd<;>(try simp only[hd]))|simp(disch:=first|assumption|omega|(simp only[nx]<;>omega)|fail)only [hd,hQr,hQn,Zew,↓YA,YB,YC,YE,YF,YZ,sevalprocAttr,List.length_map]))<;>(try (have hd_:True:=hd;clear hd_ hd)))
   ·refine ZbC (by grind)
   ·refine⟨(),by grind,by exact HXT⟩
  ·(rintro s G ht hG hn;try simp only[nx]at hn)
   ((have hd:=trivial;repeat' (first|((first|apply Zad|apply Zac|apply Zab)<;>intro hd<;>(try simp only[hd]))|simp(disch:=first|assumption|omega|(simp only[nx]<;>omega)|fail)only [hd,hQr,hQn,Zew,↓YA,YB,YC,YE,YF,YZ,sevalprocAttr,List.length_map]))<;>(try (have hd_:True:=hd;clear hd_ hd)))
   refine ZbC (by rw[ht,ZkO (Nat.le_refl _) (by omega)])
def ZAO:Int→List Tx→Int
 | n,[]=>n
 | n,s :: r=>if 1000000≤n+(if (1000000:Int)<(s.length:Int) then 1000000 else (s.length:Int)) then n+(if (1000000:Int)<(s.length:Int) then 1000000 else (s.length:Int)) else ZAO (n+(if (1000000:Int)<(s.length:Int) then 1000000 else (s.length:Int))) r
theorem ZA1:∀{l:List Tx} {n:Int},n≤ZAO n l
 | [],n=>Int.le_refl _
 | s :: r,n=>by
  unfold ZAO
  have:=ZA1 (l:=r) (n:=n+(if (1000000:Int)<(s.length:Int) then 1000000 else (s.length:Int)))
  split<;>split<;>split at this<;>omega
theorem ZAM:∀{l:List Tx} {n:Int},0≤n→ZAO n l≤1000→n+(ZAr l:Int)≤1000
 | [],_,_,h=>by simp[ZAr]at h ⊢;exact h
 | a :: r,n,h0,h=>by
  unfold ZAO at h
  obtain⟨m,hm⟩:∃m,m=if (1000000:Int)<(a.length:Int) then 1000000 else (a.length:Int):=⟨_,rfl⟩
  rw[← hm]at h
  have hm0:0≤m:=by rw[hm];split<;>omega
  have hl:=ZA1 (l:=r) (n:=n+m)
  split at h
  ·omega
  ·have ih:=ZAM (l:=r) (n:=n+m) (by omega) h
   unfold ZAr at ih ⊢
   rw[List.map_cons,List.sum_cons]
   split at hm<;>omega
theorem ZAo (t:Tok) (l:List Tx) (H:Zaa) (hl:l.length≤1000000):Zay Tryz.prog 13 [.sl t (rS l)] H (Pure H (.i (ZAO 0 l))):=by
 refine Zak hE cf13 (Nat.le_of_ble_eq_true rfl) fun Q hQr hQn=>?_
 ((have hd:=trivial;repeat' (first|((first|apply Zad|apply Zac|apply Zab)<;>intro hd<;>(try simp only[hd]))|simp(disch:=first|assumption|omega|(simp only[nx]<;>omega)|fail)only [hd,hQr,hQn,ZcW,↓YA,YB,YC,YE,YF,YZ,sevalprocAttr,List.length_map]))<;>(try (have hd_:True:=hd;clear hd_ hd)))
 generalize hT:ZAO 0 l=T at *
 refine Zbs [6,7] (σ:=Int) (fun(k:Nat) s=>T=ZAO s (l.drop k)∧0≤s∧s<1000000) (fun k s=>[(3,.i s)]) (fun k s=>[]) (0:Int) (GStep.refl _ _) (by simp only[ZaA,Zav,Fr.put,Fr.get,↓reduceIte,Nat.reduceEqDiff];rfl) (by intro k s;rfl) (by intro k s;rfl) (by rfl) (by unfold maxLen;omega) ?_ (by simp only[ZaF,ZaX,Fr.put,Fr.get,↓reduceIte,Nat.reduceEqDiff,and_self]<;>simp) (by simp only[ZaJ]) ?_ ?_
 ·exact⟨hT.symm,by omega,by omega⟩
 ·(rintro k s G hk ⟨ht,h0,h1⟩ hG hn;try simp only[nx]at hn)
  rw[List.drop_eq_getElem_cons hk]at ht
  unfold ZAO at ht
  obtain⟨m,hm⟩:∃m,m=if (1000000:Int)<(l[k].length:Int) then 1000000 else (l[k].length:Int):=⟨_,rfl⟩
  rw[← hm]at ht
  have hm0:0≤m∧m≤1000000:=by rw[hm];split<;>omega
  have hw:IntKind.i64.wrap (s+m)=s+m:=Zaw (by omega) (by omega)
  by_cases hge:1000000≤s+m
  ·rw[if_pos hge]at ht
   have hd1:decide (s+m≥1000000)=true:=decide_eq_true hge
   ((have hd:=trivial;repeat' (first|((first|apply Zad|apply Zac|apply Zab)<;>intro hd<;>(try simp only[hd]))|simp(disch:=first|assumption|omega|(simp only[nx]<;>omega)|fail)only [hd,hQr,hQn,ZcW,↓YA,YB,YC,YE,YF,YZ,sevalprocAttr,List.length_map,← hm,hw,hd1]))<;>(try (have hd_:True:=hd;clear hd_ hd)))
   refine Zaz (by rw[ht])
  ·rw[if_neg hge]at ht
   have hd1:decide (s+m≥1000000)=false:=decide_eq_false hge
   ((have hd:=trivial;repeat' (first|((first|apply Zad|apply Zac|apply Zab)<;>intro hd<;>(try simp only[hd]))|simp(disch:=first|assumption|omega|(simp only[nx]<;>omega)|fail)only [hd,hQr,hQn,ZcW,↓YA,YB,YC,YE,YF,YZ,sevalprocAttr,List.length_map,← hm,hw,hd1]))<;>(try (have hd_:True:=hd;clear hd_ hd)))
   refine⟨s+m,by exact⟨ht,by omega,by omega⟩,rfl,by exact HXT⟩
 ·(rintro s G ⟨ht,h0,h1⟩ hG hn;try simp only[nx]at hn)
  rw[List.drop_length]at ht
  ((have hd:=trivial;repeat' (first|((first|apply Zad|apply Zac|apply Zab)<;>intro hd<;>(try simp only[hd]))|simp(disch:=first|assumption|omega|(simp only[nx]<;>omega)|fail)only [hd,hQr,hQn,ZcW,↓YA,YB,YC,YE,YF,YZ,sevalprocAttr,List.length_map]))<;>(try (have hd_:True:=hd;clear hd_ hd)))
  refine Zaz (by rw[ht];rfl)
def GrI (g:Grp):Prop:=InI g.count∧∀k,k<9→InI (g.m k)
set_option maxHeartbeats 8000000 in
theorem ans_look {Q:AEx→Fr→Zaa→Prop} {F:Fr} {H G:Zaa} {ms:Int} {ia:Nat} {t1:Tok} {gs:List Grp} (hg:gs.length≤60)
  (f0:Fr.get F 0=.i ms) (f3:Fr.get F 3=.ptr ia 0) (f19:Fr.get F 19=.sl t1 (rG gs)) (f20:Fr.get F 20=.i (gs.length:Int)) (f21:Fr.get F 21=.i 0) (hx0:Zaa.Ext H G)
  (hR:∀F' G',Fr.get F' 4=.b true→Q .ret F' G')
  (hQ:∀F' G',Zaa.Ext H G'→Fr.get F' 0=.i ms→Fr.get F' 3=.ptr ia 0→(∀g∈gs,g.keys.length≤20∧ZAr g.keys≤1000)→Q .normal F' G'):AW Tryz.prog c5_1 Q F G:=by
 have hQr:=trivial
 have hQn:=trivial
 refine ZbJ (N:=gs.length) (fun k F G'=>Fr.get F 21=.i (k:Int)∧Fr.get F 20=.i (gs.length:Int)∧Fr.get F 19=.sl t1 (rG gs)∧Fr.get F 0=.i ms∧Fr.get F 3=.ptr ia 0∧Zaa.Ext H G'∧∀g∈gs.take k,g.keys.length≤20∧ZAr g.keys≤1000) (by unfold maxLen;omega) (fun k F G h=>⟨h.1,h.2.1⟩) (GStep.refl _ _) ⟨f21,f20,f19,f0,f3,hx0,by simp⟩ ?_ ?_
 ·rintro k F G' hk ⟨f21,f20,f19,f0,f3,hx,hall⟩
  have hz:(0:Int)≤(k:Int):=by omega
  have hr:=ZAW hk
  have hts:=List.take_succ_eq_append_getElem hk
  obtain⟨e0,e1,e2,e3⟩:=ZAq gs[k]
  have hst:List.take 0 [AV.sl .full [],.i 0,.i 0,.i 0,.i 0,.i 0,.i 0,.i 0,.i 0,.i 0,.i 0]++eGr gs[k]++List.drop (0+(eGr gs[k]).length) [AV.sl .full [],.i 0,.i 0,.i 0,.i 0,.i 0,.i 0,.i 0,.i 0,.i 0,.i 0]=eGr gs[k]:=rfl
  generalize gs[k]=g at *
  by_cases h1:(g.keys.length:Int) > 20
  ·have d1:decide ((g.keys.length:Int) > 20)=true:=decide_eq_true h1
   skip
   ((have hd:=trivial;repeat' (first|((first|apply Zad|apply Zac|apply Zab)<;>intro hd<;>(try simp only[hd]))|simp(disch:=first|assumption|omega|(simp only[nx]<;>omega)|fail)only [hd,hQr,hQn,Zc0,↓YA,YB,YC,YE,YF,YZ,sevalprocAttr,f21,f20,f19,f0,f3,hz,hr,e0,e1,e2,e3,hst,YZm,List.length_map,d1]))<;>(try (have hd_:True:=hd;clear hd_ hd)))
   (refine Zap.use (Zzd _) ?_;rintro _ _ ⟨rfl,k1,rfl⟩)
   ((have hd:=trivial;repeat' (first|((first|apply Zad|apply Zac|apply Zab)<;>intro hd<;>(try simp only[hd]))|simp(disch:=first|assumption|omega|(simp only[nx]<;>omega)|fail)only [hd,hQr,hQn,Zc0,↓YA,YB,YC,YE,YF,YZ,sevalprocAttr,f21,f20,f19,f0,f3]))<;>(try (have hd_:True:=hd;clear hd_ hd)))
   exact hR _ _ rfl
  ·have d1:decide ((g.keys.length:Int) > 20)=false:=decide_eq_false h1
   have hx1:Zaa.Ext H (G'.alloc (.cells (eGr g) 46)):=hx.alloc
   by_cases h2:ZAO 0 g.keys > 1000
   ·have d2:decide (ZAO 0 g.keys > 1000)=true:=decide_eq_true h2
    skip
    ((have hd:=trivial;repeat' (first|((first|apply Zad|apply Zac|apply Zab)<;>intro hd<;>(try simp only[hd]))|simp(disch:=first|assumption|omega|(simp only[nx]<;>omega)|fail)only [hd,hQr,hQn,Zc0,↓YA,YB,YC,YE,YF,YZ,sevalprocAttr,f21,f20,f19,f0,f3,hz,hr,e0,e1,e2,e3,hst,YZm,List.length_map,d1]))<;>(try (have hd_:True:=hd;clear hd_ hd)))
    (refine Zap.use (ZAo _ g.keys _ (by omega)) ?_;rintro _ _ ⟨rfl,k2,rfl⟩)
    ((have hd:=trivial;repeat' (first|((first|apply Zad|apply Zac|apply Zab)<;>intro hd<;>(try simp only[hd]))|simp(disch:=first|assumption|omega|(simp only[nx]<;>omega)|fail)only [hd,hQr,hQn,Zc0,↓YA,YB,YC,YE,YF,YZ,sevalprocAttr,f21,f20,f19,f0,f3,d1,d2]))<;>(try (have hd_:True:=hd;clear hd_ hd)))
    (refine Zap.use (Zzd _) ?_;rintro _ _ ⟨rfl,k1,rfl⟩)
    ((have hd:=trivial;repeat' (first|((first|apply Zad|apply Zac|apply Zab)<;>intro hd<;>(try simp only[hd]))|simp(disch:=first|assumption|omega|(simp only[nx]<;>omega)|fail)only [hd,hQr,hQn,Zc0,↓YA,YB,YC,YE,YF,YZ,sevalprocAttr,f21,f20,f19,f0,f3]))<;>(try (have hd_:True:=hd;clear hd_ hd)))
    exact hR _ _ rfl
   ·have d2:decide (ZAO 0 g.keys > 1000)=false:=decide_eq_false h2
    have hs:=ZAM (l:=g.keys) (n:=0) (by omega) (by omega)
    skip
    ((have hd:=trivial;repeat' (first|((first|apply Zad|apply Zac|apply Zab)<;>intro hd<;>(try simp only[hd]))|simp(disch:=first|assumption|omega|(simp only[nx]<;>omega)|fail)only [hd,hQr,hQn,Zc0,↓YA,YB,YC,YE,YF,YZ,sevalprocAttr,f21,f20,f19,f0,f3,hz,hr,e0,e1,e2,e3,hst,YZm,List.length_map,d1]))<;>(try (have hd_:True:=hd;clear hd_ hd)))
    (refine Zap.use (ZAo _ g.keys _ (by omega)) ?_;rintro _ _ ⟨rfl,k2,rfl⟩)
    ((have hd:=trivial;repeat' (first|((first|apply Zad|apply Zac|apply Zab)<;>intro hd<;>(try simp only[hd]))|simp(disch:=first|assumption|omega|(simp only[nx]<;>omega)|fail)only [hd,hQr,hQn,Zc0,↓YA,YB,YC,YE,YF,YZ,sevalprocAttr,f21,f20,f19,f0,f3,d1,d2]))<;>(try (have hd_:True:=hd;clear hd_ hd)))
    refine⟨hx1.bump,?_⟩
    intro g' hg'
    rw[hts,List.mem_append,List.mem_singleton]at hg'
    rcases hg' with hg'|rfl
    ·exact hall _ hg'
    ·exact⟨by omega,by omega⟩
 ·rintro F G' ⟨f21,f20,f19,f0,f3,hx,hall⟩
  rw[List.take_length]at hall
  skip
  ((have hd:=trivial;repeat' (first|((first|apply Zad|apply Zac|apply Zab)<;>intro hd<;>(try simp only[hd]))|simp(disch:=first|assumption|omega|(simp only[nx]<;>omega)|fail)only [hd,hQr,hQn,Zc0,↓YA,YB,YC,YE,YF,YZ,sevalprocAttr]))<;>(try (have hd_:True:=hd;clear hd_ hd)))
  exact hQ _ _ hx (by simpa [Fr.get] using f0) (by simpa [Fr.get] using f3) hall
set_option maxHeartbeats 4000000 in
theorem answers_sound (ms err:Int) (gs:List Grp) (nums:List Int) (t1 t2:Tok) (H:Zaa) (hgi:∀g∈gs,GrI g) (hns:∀n∈nums,InI n) (he:InI err) :
  Zay Tryz.prog 5 [.i ms,.agg [.i err,.sl t1 (rG gs),.sl t2 (rI nums)]] H (fun r _=>r=.b true):=by
 have g0:(H.alloc (.cells [.i err,.sl t1 (rG gs),.sl t2 (rI nums)] 38)).get H.next=some (.cells [.i err,.sl t1 (rG gs),.sl t2 (rI nums)] 38):=Zaa.Zae
 have hx0:Zaa.Ext H (H.alloc (.cells [.i err,.sl t1 (rG gs),.sl t2 (rI nums)] 38)):=(Zaa.Ext.refl H).alloc
 by_cases h1:(gs.length:Int) > 60
 ·have d1:decide ((gs.length:Int) > 60)=true:=decide_eq_true h1
  refine Zak hE cf5 (Nat.le_of_ble_eq_true rfl) fun Q hQr hQn=>?_
  ((have hd:=trivial;repeat' (first|((first|apply Zad|apply Zac|apply Zab)<;>intro hd<;>(try simp only[hd]))|simp(disch:=first|assumption|omega|(simp only[nx]<;>omega)|fail)only [hd,hQr,hQn,Zc0,↓YA,YB,YC,YE,YF,YZ,sevalprocAttr,List.length_map,d1]))<;>(try (have hd_:True:=hd;clear hd_ hd)))
  (refine Zap.use (Zzd _) ?_;rintro _ _ ⟨rfl,k1,rfl⟩)
  ((have hd:=trivial;repeat' (first|((first|apply Zad|apply Zac|apply Zab)<;>intro hd<;>(try simp only[hd]))|simp(disch:=first|assumption|omega|(simp only[nx]<;>omega)|fail)only [hd,hQr,hQn,Zc0,↓YA,YB,YC,YE,YF,YZ,sevalprocAttr]))<;>(try (have hd_:True:=hd;clear hd_ hd)))
  exact Zaq rfl
 have d1:decide ((gs.length:Int) > 60)=false:=decide_eq_false h1
 by_cases h2:(nums.length:Int) > 60
 ·have d2:decide ((nums.length:Int) > 60)=true:=decide_eq_true h2
  refine Zak hE cf5 (Nat.le_of_ble_eq_true rfl) fun Q hQr hQn=>?_
  ((have hd:=trivial;repeat' (first|((first|apply Zad|apply Zac|apply Zab)<;>intro hd<;>(try simp only[hd]))|simp(disch:=first|assumption|omega|(simp only[nx]<;>omega)|fail)only [hd,hQr,hQn,Zc0,↓YA,YB,YC,YE,YF,YZ,sevalprocAttr,List.length_map,d1,d2]))<;>(try (have hd_:True:=hd;clear hd_ hd)))
  (refine Zap.use (Zzd _) ?_;rintro _ _ ⟨rfl,k1,rfl⟩)
  ((have hd:=trivial;repeat' (first|((first|apply Zad|apply Zac|apply Zab)<;>intro hd<;>(try simp only[hd]))|simp(disch:=first|assumption|omega|(simp only[nx]<;>omega)|fail)only [hd,hQr,hQn,Zc0,↓YA,YB,YC,YE,YF,YZ,sevalprocAttr]))<;>(try (have hd_:True:=hd;clear hd_ hd)))
  exact Zaq rfl
 have d2:decide ((nums.length:Int) > 60)=false:=decide_eq_false h2
 refine Zak hE cf5 (Nat.le_of_ble_eq_true rfl) fun Q hQr hQn=>?_
 ((have hd:=trivial;repeat' (first|((first|apply Zad|apply Zac|apply Zab)<;>intro hd<;>(try simp only[hd]))|simp(disch:=first|assumption|omega|(simp only[nx]<;>omega)|fail)only [hd,hQr,hQn,Zc0,↓YA,YB,YC,YE,YF,YZ,sevalprocAttr,List.length_map,d1,d2]))<;>(try (have hd_:True:=hd;clear hd_ hd)))
 refine ans_look (ms:=ms) (ia:=H.next) (t1:=t1) (gs:=gs) (by omega) rfl rfl rfl rfl rfl (.refl _) ?_ ?_
 ·intro F' G' f4
  ((have hd:=trivial;repeat' (first|((first|apply Zad|apply Zac|apply Zab)<;>intro hd<;>(try simp only[hd]))|simp(disch:=first|assumption|omega|(simp only[nx]<;>omega)|fail)only [hd,hQr,hQn,Zc0,↓YA,YB,YC,YE,YF,YZ,sevalprocAttr,f4]))<;>(try (have hd_:True:=hd;clear hd_ hd)))
  exact Zaq rfl
 ·intro F' G' hx1 f0 f3 hall
  have hgo:∀g∈gs,GrOk g:=fun g hg=>⟨(hall g hg).1,(hall g hg).2,(hgi g hg).1,(hgi g hg).2⟩
  have g1:=hx1.get _ _ g0
  have eT:decide (ZAa ms err gs nums=ZAa ms err gs nums)=true:=decide_eq_true rfl
  have hlA:(ZAa ms err gs nums).length≤1000000:=by unfold ZAa;rw[List.length_cons,List.length_map];omega
  have htx:∀t u H,Zay Tryz.prog 14 [.sl t (rS (ZAa ms err gs nums)),.sl u (rS (ZAa ms err gs nums))] H (Pure H (.b true)):=fun t u H=>by
   have:=ZAH t u _ (ZAa ms err gs nums) H hlA
   rw[eT]at this
   exact this
  ((have hd:=trivial;repeat' (first|((first|apply Zad|apply Zac|apply Zab)<;>intro hd<;>(try simp only[hd]))|simp(disch:=first|assumption|omega|(simp only[nx]<;>omega)|fail)only [hd,hQr,hQn,Zc0,↓YA,YB,YC,YE,YF,YZ,sevalprocAttr,f0,f3,g1]))<;>(try (have hd_:True:=hd;clear hd_ hd)))
  refine Zap.use (ZAx ms err gs nums _ _ _ (by omega) (by omega) hgo hns he) ?_
  rintro r G2 ⟨hx2,tk,rfl⟩
  have g2:=hx2.get _ _ g1
  ((have hd:=trivial;repeat' (first|((first|apply Zad|apply Zac|apply Zab)<;>intro hd<;>(try simp only[hd]))|simp(disch:=first|assumption|omega|(simp only[nx]<;>omega)|fail)only [hd,hQr,hQn,Zc0,↓YA,YB,YC,YE,YF,YZ,sevalprocAttr,f0,f3,g2]))<;>(try (have hd_:True:=hd;clear hd_ hd)))
  refine Zap.use (ZAv ms err gs nums _ _ _ (by omega) (by omega) hgo hns he) ?_
  rintro r G3 ⟨hx3,tk3,rfl⟩
  ((have hd:=trivial;repeat' (first|((first|apply Zad|apply Zac|apply Zab)<;>intro hd<;>(try simp only[hd]))|simp(disch:=first|assumption|omega|(simp only[nx]<;>omega)|fail)only [hd,hQr,hQn,Zc0,↓YA,YB,YC,YE,YF,YZ,sevalprocAttr,f0,f3]))<;>(try (have hd_:True:=hd;clear hd_ hd)))
  (refine Zap.use (htx _ _ _) ?_;rintro _ _ ⟨rfl,k4,rfl⟩)
  ((have hd:=trivial;repeat' (first|((first|apply Zad|apply Zac|apply Zab)<;>intro hd<;>(try simp only[hd]))|simp(disch:=first|assumption|omega|(simp only[nx]<;>omega)|fail)only [hd,hQr,hQn,Zc0,↓YA,YB,YC,YE,YF,YZ,sevalprocAttr,f0,f3]))<;>(try (have hd_:True:=hd;clear hd_ hd)))
  (refine Zap.use (Zzd _) ?_;rintro _ _ ⟨rfl,k5,rfl⟩)
  ((have hd:=trivial;repeat' (first|((first|apply Zad|apply Zac|apply Zab)<;>intro hd<;>(try simp only[hd]))|simp(disch:=first|assumption|omega|(simp only[nx]<;>omega)|fail)only [hd,hQr,hQn,Zc0,↓YA,YB,YC,YE,YF,YZ,sevalprocAttr,f0,f3]))<;>(try (have hd_:True:=hd;clear hd_ hd)))
  exact Zaq rfl
open Go.RowKit
def Zd9:Sh:=.int .i64
def Zio:Sh:=.pair Zd9 (.pair Zd9 (.pair Zd9 .unit))
def ZsI:Sh:=.pair Zd9 (.pair (.arr 3 Zio) .unit)
def ZAz:Sh:=.pair (.slice .str) (.pair ZsI .unit)
def ZAI:Sh:=.pair Zd9 (.pair (.slice ZAz) (.pair (.slice Zd9) .unit))
theorem Zis:(Sh.slice Zd9).Fits Tryz.prog (.inl 36):=⟨3,Tryz.underlying36,by kernel_rfl,by decide,Tryz.underlying3⟩
theorem Zid:(Sh.slice .str).Fits Tryz.prog (.inl 39):=⟨9,Tryz.underlying39,by kernel_rfl,by decide,Tryz.underlying9⟩
theorem ZmO:Zio.Fits Tryz.prog (.inl 41) :=
 ⟨_,_,Tryz.underlying41,by kernel_rfl,rfl,by kernel_rfl,Tryz.underlying2,_,_,rfl,rfl,by kernel_rfl,Tryz.underlying2,_,_,rfl,rfl,by kernel_rfl,Tryz.underlying2,rfl⟩
theorem ZsX:ZsI.Fits Tryz.prog (.inl 44) :=
 ⟨_,_,Tryz.underlying44,by kernel_rfl,rfl,by kernel_rfl,Tryz.underlying2,_,_,rfl,rfl,by kernel_rfl,⟨_,Tryz.underlying42,by kernel_rfl,by kernel_rfl,ZmO⟩,rfl⟩
theorem fits_grp:ZAz.Fits Tryz.prog (.inl 46) :=
 ⟨_,_,Tryz.underlying46,by kernel_rfl,rfl,by kernel_rfl,Zid,_,_,rfl,rfl,by kernel_rfl,ZsX,rfl⟩
theorem ZAU:(Sh.slice ZAz).Fits Tryz.prog (.inl 35):=⟨46,Tryz.underlying35,by kernel_rfl,by decide,fits_grp⟩
theorem fits_ans:ZAI.Fits Tryz.prog (.inl 38) :=
 ⟨_,_,Tryz.underlying38,by kernel_rfl,rfl,by kernel_rfl,Tryz.underlying29,_,_,rfl,rfl,by kernel_rfl,ZAU,_,_,rfl,rfl,by kernel_rfl,Zis,rfl⟩
theorem ZAs {n:Int} (h:(Lit.int .i64 n).wf=true):InI n:=by
 simp[Lit.wf,IntKind.min,IntKind.max,IntKind.signed,IntKind.bits]at h
 exact h
theorem eS_of (s:ByteArray):eS s.data.toList=.sc (.string s):=by cases s;rfl
section
variable {w:World} {F:Nat→Prop}
theorem Zgi {s:Sh} {α:Type} {f:α→List AV} {p:α→Prop} (he:∀cs x,s.Is w F cs x→∃a,s.enc x=f a∧p a) {cs:List Value} {x:(Sh.slice s).D} (h:(Sh.slice s).Is w F cs x):∃l:List α,l.length≤maxLen∧(Sh.slice s).enc x=[.sl .no (l.map f)]∧∀a∈l,p a:=by
 obtain⟨A,c,css,_,h1,h2,h3,_,h5⟩:=h
 have:∀(y:List s.D),(∀z∈y,∃a,s.enc z=f a∧p a)→∃m:List α,m.length=y.length∧y.map s.enc=m.map f∧∀a∈m,p a:=by
  intro y
  induction y with
  | nil=>intro _;exact⟨[],rfl,rfl,by simp⟩
  | cons z y ih =>
   intro hz
   obtain⟨a,ha,hp⟩:=hz z List.mem_cons_self
   obtain⟨m,hm,e,hq⟩:=ih fun u hu=>hz u (List.mem_cons_of_mem _ hu)
   exact⟨a :: m,by simp[hm],by simp[ha,e],fun b hb=>by
    rcases List.mem_cons.1 hb with rfl|hb
    ·exact hp
    ·exact hq b hb⟩
 obtain⟨m,hm,e,hq⟩:=this x fun y hy=>by
  obtain⟨i,hi,rfl⟩:=List.getElem_of_mem hy
  have hi2:i<css.length:=by rw[h3];exact hi
  exact he css[i] _ (h5 i _ _ (List.getElem?_eq_getElem hi2) (List.getElem?_eq_getElem hi))
 refine⟨m,by rw[hm];exact Nat.le_trans h1 h2,?_,hq⟩
 show[AV.sl .no (List.map s.enc x)]=_
 rw[e]
theorem ZjA (y:(Sh.slice .str).D):∃l:List Tx,(Sh.slice .str).enc y=[.sl .no (rS l)]:=by
 refine⟨(show List ByteArray from y).map fun s=>s.data.toList,?_⟩
 show[AV.sl .no ((show List ByteArray from y).map fun s=>[.sc (.string s)])]=_
 congr 2
 rw[rS,List.map_map]
 refine List.map_congr_left fun s _=>?_
 show _=[eS s.data.toList]
 rw[eS_of]
theorem Zje {cs:List Value} {x:Zio.D} (h:Zio.Is w F cs x):InI x.1∧InI x.2.1∧InI x.2.2.1:=by
 obtain⟨_,_,_,⟨_,h1⟩,_,_,_,⟨_,h2⟩,_,_,_,⟨_,h3⟩,_⟩:=h
 exact⟨ZAs h1,ZAs h2,ZAs h3⟩
theorem enc_grp {cs:List Value} {x:ZAz.D} (h:ZAz.Is w F cs x):∃g:Grp,ZAz.enc x=eGr g∧GrI g:=by
 obtain⟨ks,⟨n,ps,u⟩,u2⟩:=x
 obtain⟨_,_,_,_,_,_,_,hag,_⟩:=h
 obtain⟨c1,c2,_,⟨_,hn⟩,c3,c4,_,⟨css,_,hcl,hl,_,hel⟩,_⟩:=hag
 obtain⟨m,em⟩:=ZjA ks
 match ps,hl,hel with
 | [(s0,l0,h0,_),(s1,l1,h1,_),(s2,l2,h2,_)],_,hel =>
  have hg:∀i,i<3→∃r,css[i]?=some r:=fun i hi=>⟨css[i]'(by omega),List.getElem?_eq_getElem _⟩
  obtain⟨r0,e0⟩:=hg 0 (by omega)
  obtain⟨r1,e1⟩:=hg 1 (by omega)
  obtain⟨r2,e2⟩:=hg 2 (by omega)
  obtain⟨a0,a1,a2⟩:=Zje (hel 0 _ _ e0 rfl)
  obtain⟨b0,b1,b2⟩:=Zje (hel 1 _ _ e1 rfl)
  obtain⟨d0,d1,d2⟩:=Zje (hel 2 _ _ e2 rfl)
  refine⟨⟨m,n,fun k=>match k with|0=>s0|1=>l0|2=>h0|3=>s1|4=>l1|5=>h1|6=>s2|7=>l2|_=>h2⟩,?_,ZAs hn,fun k hk=>?_⟩
  ·show(Sh.slice .str).enc ks++(_++[])=_
   rw[em]
   rfl
  ·match k,hk with
   | 0,_=>exact a0
   | 1,_=>exact a1
   | 2,_=>exact a2
   | 3,_=>exact b0
   | 4,_=>exact b1
   | 5,_=>exact b2
   | 6,_=>exact d0
   | 7,_=>exact d1
   | 8,_=>exact d2
theorem enc_ints {cs:List Value} {x:(Sh.slice Zd9).D} (h:(Sh.slice Zd9).Is w F cs x):∃l:List Int,l.length≤maxLen∧(Sh.slice Zd9).enc x=[.sl .no (rI l)]∧∀a∈l,InI a :=
 Zgi (s:=Zd9) (f:=fun n=>[AV.i n]) (p:=InI) (fun cs x hx=>⟨x,rfl,ZAs hx.2⟩) h
theorem enc_ans {cs:List Value} {x:ZAI.D} (h:ZAI.Is w F cs x):∃err gs nums,ZAI.enc x=[.i err,.sl .no (rG gs),.sl .no (rI nums)]∧InI err∧(∀g∈gs,GrI g)∧∀n∈nums,InI n:=by
 obtain⟨e,gs,ns,u⟩:=x
 obtain⟨_,_,_,⟨_,he⟩,_,_,_,hg,_,_,_,hn,_⟩:=h
 obtain⟨l,_,el,il⟩:=Zgi (f:=eGr) (p:=GrI) (fun cs x hx=>enc_grp hx) hg
 obtain⟨m,_,em,im⟩:=enc_ints hn
 refine⟨e,l,m,?_,ZAs he,il,im⟩
 show[AV.i e]++((Sh.slice ZAz).enc gs++((Sh.slice Zd9).enc ns++[]))=_
 rw[el,em];rfl
end
theorem arg_ans {W:World} {cs:Array Value} {y:ZAI.D} (h:ZAI.Is W (·<W.heap.size) cs.toList y):∃err gs nums,VR (Gh.ro (Zjd W)) W (.agg [.i err,.sl .no (rG gs),.sl .no (rI nums)]) (.agg cs)∧InI err∧(∀g∈gs,GrI g)∧∀n∈nums,InI n:=by
 obtain⟨err,gs,nums,e,h1,h2,h3⟩:=enc_ans h
 exact⟨err,gs,nums,e ▸ arg_agg (by simp[ZAI,ZAz,ZsI,Zio,Zd9,Sh.pos,Sh.size]) h,h1,h2,h3⟩
end Go.Proofs.YtemmgefppobboaaGreatDoor
