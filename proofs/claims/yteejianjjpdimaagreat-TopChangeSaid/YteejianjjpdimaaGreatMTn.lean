/- Contracts of the functions that the laws 'T' reach, part 14. No condition. -/
import Derived.Test.YteejianjjpdimaaGreatMTm
set_option linter.unusedVariables false
set_option linter.unusedSimpArgs false
set_option maxRecDepth 100000
set_option maxHeartbeats 8000000
namespace Go.Proofs.YteejianjjpdimaaGreat.L19
open L02 L07 L13 L14 L15 L16 L18 L20
structure OrdE (l:List UInt64) (E:List (Int×UInt64)):Prop where
 rng:∀(j:Nat) e,E[j]?=some e→96≤e.1∧e.1<l.length∧e.1≤100000
 inc:∀(j:Nat) e f,E[j]?=some e→E[j+1]?=some f→e.1<f.1
 few:E.length≤12
theorem OrdE.one {l:List UInt64} {a:Int} {x:UInt64} (h:96≤a∧a<l.length∧a≤100000):OrdE l [(a,x)]:=by
 refine ⟨fun j e he=>?_,fun j e f he hf=>?_,by simp⟩
 ·cases j with
  | zero=>simp at he;rw [←he];exact h
  | succ j=>simp at he
 ·simp at hf
theorem OrdE.two {l:List UInt64} {a b:Int} {x y:UInt64} (h:96≤a∧a<b∧b<l.length∧b≤100000):OrdE l [(a,x),(b,y)]:=by
 refine ⟨fun j e he=>?_,fun j e f he hf=>?_,by simp⟩
 ·match j with
  | 0=>simp at he;rw [←he];dsimp only;omega
  | 1=>simp at he;rw [←he];dsimp only;omega
  | j+2=>simp at he
 ·match j with
  | 0=>simp at he hf;rw [←he,←hf];dsimp only;omega
  | j+1=>simp at hf
structure Stp (l:List UInt64) (E:List (Int×UInt64)) (M:Mo):Prop where
 rt:Rt (made l E)
 iso:∃f,Iso f M (seen (made l E))
 ord:OrdE l E
theorem Ren.iso {m:Mo} {ns:List Int} (h:Ren m.objs.length ns) (hc:chk m=0):∃f,Iso f m (numM m ns):=by
 obtain ⟨e,hl⟩:=h.emb hc;have hfew:=(chk_ok hc).2.1;have hcn:chk (numM m ns)=0:=e.right hc (fun j hj=>by
  rw [hl] at hj;obtain ⟨k,hk,e1⟩:=h.sur hj;exact ⟨k,hk,by rw [List.getD_eq_getElem?_getD,e1];rfl⟩) (by omega)
 exact ⟨_,hc,hcn,hl,e.tys,e.sls,e.obs,fun i hi=>by have:=e.lt i hi;omega,fun i j hi hj=>e.inj i j hi hj⟩
theorem ren_ins {N f:Nat} (hf:f≤N):Ren (N+1) (insN N f):=by
 have hg:∀(i:Nat) x,(insN N f)[i]?=some x→(i<N∧x=(if i<f then (i:Int) else (i:Int)+1))∨(i=N∧x=f):=fun i x hx=>by
  rcases Nat.lt_trichotomy i N with h | h | h
  ·rw [insN_get h] at hx;injection hx with hx;exact .inl ⟨h,hx.symm⟩
  ·subst h;rw [insN_last] at hx;injection hx with hx;exact .inr ⟨rfl,hx.symm⟩
  ·rw [List.getElem?_eq_none (by rw [insN_len];omega)] at hx;cases hx
 refine ⟨insN_len N f,fun i x hx=>?_,fun i j x hi hj=>?_⟩
 ·rcases hg i x hx with ⟨h,e⟩ | ⟨h,e⟩
  ·split at e <;> omega
  ·omega
 ·rcases hg i x hi with ⟨h,e⟩ | ⟨h,e⟩ <;> rcases hg j x hj with ⟨h2,e2⟩ | ⟨h2,e2⟩
  ·split at e <;> split at e2 <;> omega
  ·split at e <;> omega
  ·split at e2 <;> omega
  ·omega
section
variable {l:List UInt64} {f:Nat→Nat} {m:Mo}
theorem step_all (rt:Rt l) (h:Iso f m (seen l)) {t:Int} (h0:aiE l t=0):allE m t=0∧allS m t=aiS l t∧allG m t=aiG l t∧Stp l (aiL l t) (allM m t):=by
 obtain ⟨q,k,p,n,c,g0,b,tt,P,S,rfl,al⟩:=Al.of h0;obtain ⟨e1,e2,e3,rt',e4,_⟩:=al.after;have ha:allE m q=0:=by rw [←h.allE];exact e1
 obtain ⟨f1,i1⟩:=h.all ha;have hlen:(allM (seen l) q).objs.length=(O19 l).length+1:=by
  obtain ⟨k2,g2,a2⟩:=Alld.of e1;rw [a2.len,seen,List.length_map]
 have hle:=al.first.2.1
 obtain ⟨f2,i2⟩:=Ren.iso (m:=allM (seen l) q) (ns:=insN (O19 l).length (objs P).length) (by rw [hlen];exact ren_ins hle) i1.cn;obtain ⟨NE,n1,n2,n3,n4,n5⟩:=al.small;refine ⟨ha,by rw [←h.allS,e2,al.hS],by rw [←h.allG,e3,al.hG],rt',⟨_,by rw [e4];exact i1.trans i2⟩,?_,?_,by rw [n3];exact n2⟩
 ·intro j e he;have h1:=n5 j e he;have h2:=(List.getElem?_eq_some_iff.1 he).1
  have:=al.hp;have:=al.hc;have:=al.hk;have:=rt.sz.2.1;rw [n3] at h2;rw [h1]
  unfold adrE;split <;> omega
 ·intro j e f he hf;have h1:=n5 j e he;have h2:=n5 (j+1) f hf
  have:=al.hp;have:=al.hk;rw [h1,h2]
  unfold adrE;rw [if_neg (show ¬j+1=0 by omega)]
  split <;> omega
theorem step_all_no (rt:Rt l) (h:Iso f m (seen l)) {t:Int} (h0:aiE l t≠0):aiS l t=0∧aiG l t=0∧(aiE l t≠20→allE m t=aiE l t∧allS m t=0∧allG m t=0)∧(aiE l t=20→0≤t∧t<m.types.length∧fitE l (2+(((m.types.getD t.toNat []).length:Int)+1) / 2*2)=20):=by
 refine ⟨by rw [aiS,if_neg h0],by rw [aiG,if_neg h0],fun h1=>?_,fun h1=>?_⟩
 ·rcases aiE_seen rt h0 with h2 | ⟨h2,_⟩
  ·rw [h.allE] at h2
   have:allE m t≠0:=by omega
   exact ⟨h2.symm,by rw [allS,if_neg this],by rw [allG,if_neg this]⟩
  ·exact absurd h2 h1
 ·have hT:m.types=T19 l:=h.tys.symm;unfold aiE at h1;rw [if_pos rt.chk] at h1;split at h1;case isFalse=>omega
  case isTrue ht=>
  split at h1;case isTrue=>omega
  case isFalse hx=>
  split at h1;case isTrue=>omega
  case isFalse hb=>
  rw [hT]
  refine ⟨ht.1,ht.2,?_⟩
  obtain ⟨q,rfl⟩:=Int.eq_ofNat_of_zero_le ht.1;have hty:(T19 l).getD q []=tyI l q:=by unfold tyI;rw [Int.toNat_natCast]
  have hq:q<(T19 l).length:=by omega
  have ht8:=(kErr_ok ((T19_ok rt.ty).2 (tyI l q) (by rw [←hty,List.getD_eq_getElem?_getD,List.getElem?_eq_getElem hq];exact List.getElem_mem hq))).1;rw [Int.toNat_natCast,hty]
  have hs:(2+(((tyI l q).length:Int)+1) / 2*2)=((sizT (tyI l q):Nat):Int):=by unfold sizT;omega
  rw [hs,fitE,if_pos rt.al,if_pos (by unfold RightN sizT;omega),if_neg hb]
theorem step_ask (rt:Rt l) (h:Iso f m (seen l)) (a g:Int):askI l a g=asked m a g:=by rw [←asked_seen rt,h.asked]
theorem step_drop (rt:Rt l) (h:Iso f m (seen l)) {a g:Int} (h0:askI l a g=0):Stp l (diL l a g) (dropM m a g):=by
 have hm:asked m a g=0:=by rw [←step_ask rt h];exact h0
 obtain ⟨k,x,nn,q,b,t,rfl,hd⟩:=Hd.of h0;obtain ⟨d1,_,d3,d4,_⟩:=hd.drop;refine ⟨d3,⟨f,by rw [d4];exact h.drop hm⟩,?_⟩
 rw [d1]
 have:=hd.hk;have:=rt.sz.1;have:=rt.sz.2.1;exact OrdE.one (by omega)
theorem step_freeE (rt:Rt l) (h:Iso f m (seen l)) (a g:Int):fiE l a g=freeE m a g:=by rw [←freeE_seen rt,h.freeE]
theorem step_free (rt:Rt l) (h:Iso f m (seen l)) {a g:Int} (h0:fiE l a g=0):Stp l (fiL l a g) (freeM m a g):=by
 have hm:freeE m a g=0:=by rw [←step_freeE rt h];exact h0
 have hask:askI l a g=0:=by
  unfold fiE at h0;split at h0
  ·assumption
  ·exact h0
 obtain ⟨k,x,nn,q,b,t,rfl,hd⟩:=Hd.of hask;obtain ⟨i,mm,p,_,_,_,f4,f5,f6,f7,f8,_,f10,f11,_⟩:=hd.free h0;refine ⟨f10,by rw [f11];exact h.free hm,?_⟩
 rw [f8]
 have:=hd.hk;have:=rt.sz.1;have:=rt.sz.2.1;have:=f6.bounds;exact OrdE.two (by omega)
theorem step_getE (rt:Rt l) (h:Iso f m (seen l)) (a g n:Int):giE l a g n=getE m a g n:=by rw [←getE_seen rt,h.getE]
theorem step_getV (rt:Rt l) (h:Iso f m (seen l)) (a g n:Int):giV l a g n=getV m a g n:=by rw [←getV_seen rt,h.getV]
theorem ki_rng {a g n:Int} {x:UInt64} (h:kiErr l a g n=0):OrdE l [(kiAt l a g n,x)]:=by
 obtain ⟨k,a0,nn,q,i,b,t,kd,x0,rfl,rfl,fd⟩:=Fd.of h;rw [fd.hAt]
 have:=fd.lt;have:=fd.hd.ha1;have:=fd.hd.rt.sz.2.1;exact OrdE.one (by omega)
theorem giE_inv {a g n:Int} (h:giE l a g n=0):kiErr l a g n=0:=by
 unfold giE at h;split at h
 ·assumption
 ·exact h
theorem riE_inv {a g n:Int} {tq:Option (Int×Int)} (h:riE l a g n tq=0):kiErr l a g n=0:=by
 unfold riE at h;split at h
 ·assumption
 ·exact h
theorem step_set (rt:Rt l) (h:Iso f m (seen l)) {a g n:Int} (v:UInt64) (h0:giE l a g n=0):Stp l (siL l a g n v) (setM m a g n v):=by
 obtain ⟨s1,s2⟩:=setM_seen rt a g n v h0;refine ⟨s1,⟨f,by rw [←s2];exact h.set v (by rw [←step_getE rt h];exact h0)⟩,?_⟩
 rw [siL,if_pos h0]
 exact ki_rng (giE_inv h0)
theorem step_refE (rt:Rt l) (h:Iso f m (seen l)) (a g n b c:Int):riE l a g n (some (b,c))=refE m a g n (some (b,c)):=by rw [←refE_seen rt,h.refE]
theorem step_ref (rt:Rt l) (h:Iso f m (seen l)) {a g n b c:Int} (h0:riE l a g n (some (b,c))=0):Stp l (riL l a g n (some (b,c))) (refM m a g n (some (b,c))):=by
 obtain ⟨s1,s2,_⟩:=refM_seen rt a g n _ h0;refine ⟨s1,⟨f,by rw [←s2];exact h.ref (by rw [←step_refE rt h];exact h0)⟩,?_⟩
 rw [riL,if_pos h0]
 exact ki_rng (riE_inv h0)
theorem step_rootE (rt:Rt l) (h:Iso f m (seen l)) (a g n:Int):oiE l a g n=rootE m a g n∧oiS l a g n=rootS m a g n∧oiG l a g n=rootG m a g n:=by
 obtain ⟨s1,s2,s3,_⟩:=root_seen rt a g n;rw [←s1,←s2,←s3,h.rootE,h.rootS,h.rootG];exact ⟨rfl,rfl,rfl⟩
theorem step_root (rt:Rt l) (h:Iso f m (seen l)) {a g n:Int} (h0:oiE l a g n=0):Stp l (oiL l a g n) (rootM m a g n):=by
 obtain ⟨s1,s2,s3,s4⟩:=root_seen rt a g n;obtain ⟨r1,r2,p,y,r3⟩:=s4 h0;refine ⟨r1,⟨f,by rw [←r2];exact h.root (by rw [←(step_rootE rt h a g n).1];exact h0)⟩,?_⟩
 have hn:L18.newErr l (wdI l a g n).toNat=0:=by
  have h1:=h0;unfold oiE at h1;split at h1
  ·split at h1
   ·split at h1
    ·omega
    ·exact h1
   ·omega
  ·rename_i h2;exact absurd h1 h2
 have h2:next (slots l)≠none:=fun e=>by
  unfold L18.newErr at hn;rw [if_pos rt.sl,e] at hn;split at hn
  ·simp at hn
  ·omega
 obtain ⟨k,hk⟩:=Option.ne_none_iff_exists'.1 h2;obtain ⟨_,⟨s,hs,_⟩,_⟩:=nextFrom_some hk;rw [Nat.sub_zero] at hs;have hk16:k<16:=by have:=(List.getElem?_eq_some_iff.1 hs).1;rw [slots_len' rt.sl] at this;exact this
 rw [oiL,if_pos h0,newAt,if_pos hn,hk,Option.getD_some]
 have:=rt.sz.1;have:=rt.sz.2.1;exact OrdE.one (by omega)
theorem step_stale (rt:Rt l) (h:Iso f m (seen l)) {a g n:Int} (ha:0≤a∧a<16):giE l a g n=28↔rightErr m.slots a g≠0:=by
 have h16:=(chk_ok h.cm).2.2.1;have e:asked m a g=rightErr m.slots a g:=asked_eq h.cm;have hr:rightErr m.slots a g=0∨rightErr m.slots a g=28:=by
  unfold rightErr;rw [if_pos (by omega)]
  split
  ·exact .inl rfl
  ·exact .inr rfl
 rw [step_getE rt h,getE,kErrF,e]
 rcases hr with hr | hr
 ·rw [hr,if_pos rfl]
  constructor
  ·intro h1;split at h1
   ·split at h1 <;> omega
   ·split at h1 <;> omega
  ·intro h1;exact absurd rfl h1
 ·rw [hr]
  simp
end
end Go.Proofs.YteejianjjpdimaaGreat.L19
namespace Go.Proofs.YteejianjjpdimaaGreat
section
open Go.RowKit L02 L07 L13 L14 L15 L16 L18 L19 L20
def oneH (L:List (Int×Int)) (n:Int):Int×Int:=if 0≤n∧n<L.length then L.getD n.toNat (0,0) else (3,1073741824)
def HadOk (L:List (Int×Int)):Prop:=∀h∈L,0≤h.1∧h.1<16
theorem oneH_ok {L:List (Int×Int)} (h:HadOk L) (n:Int):0≤(oneH L n).1∧(oneH L n).1<16:=by
 unfold oneH;split
 ·rename_i hn;have hl:n.toNat<L.length:=by omega
  rw [List.getD_eq_getElem?_getD,List.getElem?_eq_getElem hl]
  exact h _ (List.getElem_mem hl)
 ·decide
theorem one24_top (hv:Value) (L:List (Int×Int)) (n a b:Int) (ha:a=(oneH L n).1) (hb:b=(oneH L n).2) (w:World) (h:Hnds w hv L):
  Calls Tryz.prog 18 #[hv,.int .i64 n] w fun e w'=>e=.returned (.agg #[.int .i64 a,.int .i64 b])∧Below w.heap.size w w':=by
 have B:=Below.refl w.heap.size w;have lh:=h.len;obtain ⟨N,hN⟩:=exq L.length;rw [←hN] at lh;by_cases hn:0≤n∧n<N
 ·obtain ⟨k,rfl⟩:=Int.eq_ofNat_of_zero_le hn.1;have hk:k<L.length:=by omega
  obtain ⟨bb,oo,s,ia,m0,m1,hs⟩:=h.at_ hk;have e:oneH L (k:Int)=s:=by
   unfold oneH;rw [if_pos (by omega),Int.toNat_natCast,List.getD_eq_getElem?_getD,hs.out];rfl
  rw [e] at ha hb;obtain ⟨s1,s2⟩:=s;dsimp only at ha hb m0 m1;subst ha;subst hb;have t1:decide ((k:Int)<0)=false:=decide_eq_false (by omega)
  have t2:decide ((N:Int)≤(k:Int))=false:=decide_eq_false (by omega)
  have t3:decide (N≤k)=false:=decide_eq_false (by omega)
  have HS:=hD hs;clear hs e hk hn hN h;go_in;go_upto_region 1 with (fail)
  refine wpb1 (39) (#[.int .i64 0,.int .i64 0]) ?_;rintro wa1 ⟨g1,b⟩
  replace m0:=cell_later b m0;replace m1:=cell_later b m1;replace B:=B.trans (b.mono B.size);clear b;replace c_g1:=g1.five;go_wp2;refine bodyPost_ret (v:=.agg #[.int .i64 a,.int .i64 b]) (by simp [results,Tryz.results18,go_sem,c_g1]) rfl ?_;refine ⟨rfl,?_⟩
  exact bdn
 ·have e:oneH L n=(3,1073741824):=by unfold oneH;rw [if_neg (by omega)]
  rw [e] at ha hb;dsimp only at ha hb;subst ha;subst hb;clear e h;rcases (show n<0∨(¬n<0∧(N:Int)≤n) by omega) with h1 | ⟨h1,h2⟩
  ·have t1:decide (n<0)=true:=decide_eq_true h1;clear hn hN h1;go_in;go_upto_region 1 with (fail)
   refine wpb1 (39) (#[.int .i64 0,.int .i64 0]) ?_;rintro wa1 ⟨g1,b⟩
   replace B:=B.trans (b.mono B.size);clear b;replace c_g1:=g1.five;go_wp2;refine bodyPost_ret (v:=.agg #[.int .i64 3,.int .i64 1073741824]) (by simp [results,Tryz.results18,go_sem,c_g1]) rfl ?_;refine ⟨rfl,?_⟩
   exact bdn
  ·have t1:decide (n<0)=false:=decide_eq_false h1;have t2:decide ((N:Int)≤n)=true:=decide_eq_true h2;clear hn hN h1 h2;go_in;go_upto_region 1 with (fail)
   refine wpb1 (39) (#[.int .i64 0,.int .i64 0]) ?_;rintro wa1 ⟨g1,b⟩
   replace B:=B.trans (b.mono B.size);clear b;replace c_g1:=g1.five;go_wp2;refine bodyPost_ret (v:=.agg #[.int .i64 3,.int .i64 1073741824]) (by simp [results,Tryz.results18,go_sem,c_g1]) rfl ?_;refine ⟨rfl,?_⟩
   exact bdn
theorem spaceless_any (v tv ov sv:Value) (l:List UInt64) (m:Mo) (t:Int) (ht:0≤t∧t<m.types.length) (h8:(m.types.getD t.toNat []).length≤8) (hE:fitE l (2+(((m.types.getD t.toNat []).length:Int)+1) / 2*2)=20) (w:World) (h:Words w v l) (hm:Mod w tv ov sv m):
  Calls Tryz.prog 21 #[v,.agg #[tv,ov,sv],.int .i64 t] w fun e w'=>e=.returned (.bool true)∧Below w.heap.size w w':=by
 have B:=Below.refl w.heap.size w;have H:=hD h;obtain ⟨q,rfl⟩:=Int.eq_ofNat_of_zero_le ht.1;rw [Int.toNat_natCast] at h8 hE;obtain ⟨N,hN⟩:=exq m.types.length;have lt:=hm.t.len;rw [←hN] at lt ht;obtain ⟨ad,x,tb,it,m0,hs,hby⟩:=hm.t.at_ (k:=q) (by omega)
 have e:m.types.getD q []=tb:=by rw [List.getD_eq_getElem?_getD,hs.out];rfl
 rw [e] at h8 hE;have HBY:=hD hby.out;obtain ⟨nb,hnb⟩:=exq tb.length;rw [←hnb] at h8 hE;have lb:=Rd.len hby.out Tryz.underlying66;rw [←hnb] at lb;obtain ⟨bb,hbb⟩:=exq (fitB l (2+((nb:Int)+1) / 2*2))
 have FF:=hD (fun (z:Int) (hz:z=2+((nb:Int)+1) / 2*2) w h=>FitFind_any v l z bb 20 (by rw [hz];exact hbb) (by rw [hz];exact hE.symm) w h)
 obtain ⟨⟨tA,tn,tc,rfl⟩,⟨oA,on,oc,rfl⟩,⟨sA,sn,sc,rfl⟩⟩:(∃A n c,tv=.slice A n c)∧(∃A n c,ov=.slice A n c)∧∃A n c,sv=.slice A n c:=by
  obtain ⟨⟨_,_,⟨A,c,e,_⟩,_⟩,⟨_,_,⟨A',c',e',_⟩,_⟩,⟨A'',c'',e'',_⟩⟩:=hm;exact ⟨⟨A,_,c,e⟩,⟨A',_,c',e'⟩,⟨A'',_,c'',e''⟩⟩
 obtain ⟨xA,xn,xc,rfl⟩:∃A n c,x=.slice A n c:=by obtain ⟨A,c,e,_⟩:=hby.out;exact ⟨A,_,c,e⟩
 obtain ⟨bat,bsz,bk1,bty,bmk,bnx⟩:=bb;dsimp only at FF;have t1:decide ((q:Int)<0)=false:=decide_eq_false (by omega)
 have t2:decide ((N:Int)≤(q:Int))=false:=decide_eq_false (by omega)
 have t3:decide (N≤q)=false:=decide_eq_false (by omega)
 clear ht hE hN hs hby e hnb hbb h hm HBY;go_in;go_upto_region 1 with (fail)
 refine wpb1 (31) (#[.slice tA tn tc,.slice oA on oc,.slice sA sn sc]) ?_;rintro wa1 ⟨g1,b⟩
 replace m0:=cell_later b m0;replace B:=B.trans (b.mono B.size);clear b;replace c_g1:=g1.five;go_wp2_with fail;refine (FF.out _ (by omega) _ (H.out.below B)).mono ?_;rintro e w2 ⟨rfl,b⟩
 replace B:=B.trans (b.mono B.size)
 clear b m0 g1 c_g1;go_upto_region 4 with (fail)
 refine wp_gen (fun Wv=>Below w2.heap.size w2 Wv) ((Below.refl _ w2).alloc (by simp <;> omega) _) ?_;intro wa2 b;replace B:=B.trans (b.mono B.size);clear b;go_wp2
 go_ret
 exact ⟨rfl,B⟩
end
section
open Go.RowKit L02
def RetW (w:World) (l:List UInt64) (e:Ending) (w':World):Prop:=∃v,e=.returned v∧OwnW w' w.heap.size 42 v l∧Below w.heap.size w w'
theorem Twin_any (v:Value) (l:List UInt64) (w:World) (h:Words w v l) (hl:l.length≤1048576):Calls Tryz.prog 81 #[v] w (RetW w l):=by
 have H:=hD h;clear h;go_in;go_wp2_with (at_builtin;refine wpList_append (by rfl) rfl rfl rfl Tryz.underlying22 info_u64 rfl (by omega) (lit0_own (Nat.le_refl _)) (by exact H.out.alloc _) (one_u64s _) (by omega) (by omega) ((Below.refl _ w).alloc (Nat.le_refl _) _) (Nat.le_refl _) ?_;intro v1 w1 hown hbel hv)
 go_ret
 exact ⟨v1,rfl,OwnW.of hown (by simp),hbel⟩
end
section
open Go.RowKit L02
theorem OwnI.push {w:World} {B E n:Nat} {v:Value} {l:List Int} {x:Int} {xs:List Value} (h:w.ownsRow B E 1 v n (xs++[Value.int .i64 x])) (hx:xs=l.map i64):OwnI w B E v (l++[x]):=
 OwnI.of h (by subst hx;simp [i64])
end
section
open Go.RowKit L02 L05 L06 L07
end
section
open Go.RowKit L02 L05 L06 L07
def eC (E:List (Int×UInt64)):List Value:=E.flatMap fun e=>[.int .i64 e.1,.int .u64 e.2.toNat]
theorem eC_len (E:List (Int×UInt64)):(eC E).length=E.length*2:=by
 induction E with
 | nil=>rfl
 | cons h H ih=>simp only [eC,List.flatMap_cons,List.length_append,List.length_cons,List.length_nil] at *;omega
theorem eC_get:∀(E:List (Int×UInt64)) (k:Nat) (e:Int×UInt64),E[k]?=some e→(eC E)[k*2]?=some (.int .i64 e.1)∧(eC E)[k*2+1]?=some (.int .u64 e.2.toNat)
 | [],k,h,hk=>by simp at hk
 | x :: H,0,h,hk=>by simp at hk;subst hk;exact ⟨rfl,rfl⟩
 | x :: H,k+1,h,hk=>by
  have:=eC_get H k h (by simpa using hk)
  rw [show (k+1)*2=k*2+1+1 by omega]
  simpa [eC] using this
theorem eC_snoc (E:List (Int×UInt64)) (a:Int) (b:UInt64):eC E++[.int .i64 a,.int .u64 b.toNat]=eC (E++[(a,b)]):=by simp [eC,List.flatMap_append]
def Ents (w:World) (v:Value) (E:List (Int×UInt64)):Prop:=Rd w 2 v E.length (eC E)
def OwnE (w:World) (base:Nat) (v:Value) (E:List (Int×UInt64)):Prop:=w.ownsRow base 131 2 v E.length (eC E)
theorem OwnE.rd {w:World} {base:Nat} {v:Value} {E:List (Int×UInt64)} (h:OwnE w base v E):Ents w v E:=Rd.of_own h
theorem Ents.below {w w':World} {v:Value} {E:List (Int×UInt64)} (h:Ents w v E) (hb:Below w.heap.size w w'):Ents w' v E:=Rd.below h hb
theorem OwnE.below {w w':World} {base:Nat} {v:Value} {E:List (Int×UInt64)} (h:OwnE w base v E) (hb:Below w.heap.size w w'):OwnE w' base v E:=own_below h hb
theorem OwnE.nil (w:World) (base:Nat):OwnE w base (.slice none 0 0) []:=World.ownsRow_nil w base _ 2
theorem OwnE.of {w:World} {B n:Nat} {v:Value} {xs:List Value} {E:List (Int×UInt64)} (h:w.ownsRow B 131 2 v n xs) (hx:xs=eC E):OwnE w B v E:=by
 subst hx;have hn:n=E.length:=by have:=h.1;rw [eC_len] at this;omega
 subst hn;exact h
theorem size_ent:(Tryz.prog.info? 131).map (·.size)=some 2:=by kernel_rfl
theorem info_ent:(Tryz.prog.info? 131).map (fun i=>(i.zero,i.size,i.bytes))=some (some (.agg #[.int .i64 0,.int .u64 0]),2,16):=by kernel_rfl
theorem Ents.at_ {w:World} {v:Value} {E:List (Int×UInt64)} (h:Ents w v E) {k:Nat} (hk:k<E.length):
  ∃b o a x,(∀W,(Instr.indexAt 71 v (.int .i64 (k:Int))).run Tryz.prog W=.ok (.pointer (some ⟨b,o,none⟩)) W)∧w.cell? ⟨b,o,none⟩=some (.int .i64 a)∧w.cell? ⟨b,o+1,none⟩=some (.int .u64 (UInt64.toNat x))∧Hid (E[k]?=some (a,x)):=by
 have hix:=fun W=>Rd.ixN h Tryz.underlying71 size_ent hk W;obtain ⟨b,o,c,rfl,hb,hc,hcell⟩:=Rd.form h (by omega)
 have hs:E[k]?=some (E[k].1,E[k].2):=List.getElem?_eq_getElem hk;have t:=eC_get E k _ hs;exact ⟨b,o+k*2,E[k].1,E[k].2,fun W=>hix W,hcell _ _ t.1,hcell _ _ t.2,hD hs⟩
theorem lit_ent {w:World} {e:TypeId} {n:Nat} (a:Int) (x:UInt64) (hn:w.heap.size=n):Rd (w.alloc (.cells #[.int .i64 a,.int .u64 x.toNat] e)) 2 (.slice (some ⟨n,0,none⟩) 1 1) 1 [.int .i64 a,.int .u64 x.toNat]:=by
 subst hn;exact lit_rdK (n:=1) (sz:=2) rfl (by omega)
def hE (V:List UInt64) (l:List Int):List (Int×UInt64):=l.map fun i=>(i,V.getD i.toNat 0)
end
section
open Go.RowKit L01 L02 L05 L06 L07 L13 L14 L15 L18 L19
theorem findB_first:∀{L:List Hb} {a:Int} {j:Nat} {b:Hb},L[j]?=some b→b.at_=a→(∀i c,i<j→L[i]?=some c→c.at_≠a)→findB L a=some b
 | [],_,_,_,h,_,_=>by cases h
 | c :: L,a,0,b,h,e,_=>by
  simp at h;subst h;unfold findB;rw [List.find?_cons_of_pos (by simpa using e)]
 | c :: L,a,j+1,b,h,e,hz=>by
  have hc:=hz 0 c (by omega) rfl;unfold findB;rw [List.find?_cons_of_neg (by simpa using hc)]
  exact findB_first (by simpa using h) e (fun i c' hi hc'=>hz (i+1) c' (by omega) (by simpa using hc'))
theorem findB_none {L:List Hb} {a:Int} (h:∀b∈L,b.at_≠a):findB L a=none:=by
 unfold findB;rw [List.find?_eq_none]
 intro b hb;simpa using h b hb
theorem Find_any (v:Value) (l:List UInt64) (a:Int) (b:Hb) (r:Int) (hb:b=find l a) (hr:r=findErr l a) (w:World) (h:Words w v l):
  Calls Tryz.prog 103 #[v,.int .i64 a] w fun e w'=>e=.returned (.tuple #[.agg #[.int .i64 b.at_,.int .i64 b.size,.int .i64 b.kind,.int .i64 b.ty,.bool b.mark,.int .u64 b.next.toNat],.int .i64 r])∧Below w.heap.size w w':=by
 have B:=Below.refl w.heap.size w;have H:=hD h;obtain ⟨L,hL⟩:=exq (allL l)
 obtain ⟨c,hc⟩:=exq (allErr l)
 have WT:=hD (AllW_any v l L c hL hc)
 by_cases h0:c=0;case neg=>
  have hr0:r=c:=by rw [hr,findErr,if_neg (by rw [←hc];exact h0),hc]
  have hb0:b=.none:=by rw [hb,find,if_neg (by rw [←hr,hr0];exact h0)]
  subst hr0;subst hb0;have n1:(r != 0)=true:=by rw [bne_iff_ne];exact h0
  clear hb hr h hL hc h0;go_in;go_upto_region 1 with (fail)
  refine wpb1 (64) (#[.int .i64 0,.int .i64 0,.int .i64 0,.int .i64 0,.bool false,.int .u64 0]) ?_;rintro wa1 ⟨g1,b⟩
  replace B:=B.trans (b.mono B.size);clear b;obtain ⟨c_g1,f_g1,a_g1,d_g1,e_g1⟩:=g1.five;go_wp2_with fail;refine (WT.out _ (H.out.below B)).mono ?_;rintro e wa2 ⟨xl,rfl,ol,b⟩
  try clear c_g1 f_g1 a_g1 d_g1 e_g1
  replace g1:=g1.below b;obtain ⟨c_g1,f_g1,a_g1,d_g1,e_g1⟩:=g1.five;replace B:=B.trans (b.mono B.size);clear b;go_wp2;refine bodyPost_ret (v:=.tuple #[.agg #[.int .i64 0,.int .i64 0,.int .i64 0,.int .i64 0,.bool false,.int .u64 0],.int .i64 r]) (by simp [results,Tryz.results103,go_sem,c_g1,f_g1,a_g1,e_g1]) rfl ?_;refine ⟨rfl,?_⟩
  exact bdn
 case pos=>
  subst h0;have hl9:L.length≤960:=by rw [hL];exact all_len hc.symm
  have hrb:(∀x∈L,x.at_=a→findB L a=some x→b=x∧r=0)∧(findB L a=none→b=.none∧r=6):=by
   constructor
   ·intro x hx e hf;have hr0:r=0:=by rw [hr,findErr,if_pos hc.symm,←hL,hf];rfl
    exact ⟨by rw [hb,find,if_pos (by rw [←hr];exact hr0),←hL,hf];rfl,hr0⟩
   ·intro hf;have hr0:r=6:=by rw [hr,findErr,if_pos hc.symm,←hL,hf];rfl
    exact ⟨by rw [hb,find,if_neg (by rw [←hr,hr0];decide)],hr0⟩
  obtain ⟨N,hN⟩:=exq L.length;have HN:=hD hN;have HRB:=hD hrb;have hN9:N≤960:=by omega
  clear hb hr h hL hc hl9 hN hrb;go_in;go_upto_region 1 with (fail)
  refine wpb1 (64) (#[.int .i64 0,.int .i64 0,.int .i64 0,.int .i64 0,.bool false,.int .u64 0]) ?_;rintro wa1 ⟨g1,b⟩
  replace B:=B.trans (b.mono B.size);clear b;obtain ⟨c_g1,f_g1,a_g1,d_g1,e_g1⟩:=g1.five;go_wp2_with fail;refine (WT.out _ (H.out.below B)).mono ?_;rintro e wa2 ⟨xl,rfl,ol,b⟩
  try clear c_g1 f_g1 a_g1 d_g1 e_g1
  replace g1:=g1.below b;obtain ⟨c_g1,f_g1,a_g1,d_g1,e_g1⟩:=g1.five;replace B:=B.trans (b.mono B.size);clear b;have lx:=ol.rd.len;rw [←HN.out] at lx;have HO:=hD ol.rd;have hB1:=B.size;have hp1:=g1.lt;have HB:=hD (And.intro g1 B)
  have HBB:=hD (Below.refl wa2.heap.size wa2)
  clear ol g1 B c_g1 f_g1 a_g1 d_g1 e_g1;go_wp2
  go_loopg [21] N (fun g i wr=>∃j:Nat,j≤N∧g=N-j∧i=.int .i64 j∧Hid (Below wa2.heap.size wa2 wr∧∀i c,i<j→L[i]?=some c→c.at_≠a))
  case atStart=>exact ⟨0,by omega,by omega,rfl,hD ⟨HBB.out,fun i c hi=>by omega⟩⟩
  case round=>
   obtain ⟨j,hj,rfl,rfl,hh⟩:=hrel;clear HBB;have B2:=hh.out.1;have HZ:=hD hh.out.2;have g1:=HB.out.1.below B2;have B:=HB.out.2.trans (B2.mono hB1)
   clear hh;by_cases hlt:j<N
   ·obtain ⟨bb,oo,x,ia,m0,m1,m2,m3,m4,m5,hx,_⟩:=(Blks.below HO.out B2).at_ (k:=j) (by rw [←HN.out];exact hlt)
    have HX:=hD hx.out;by_cases he:x.at_=a
    ·have k1:(x.at_==a)=true:=by rw [beq_iff_eq];exact he
     obtain ⟨q1,q2⟩:=HRB.out.1 x (List.mem_of_getElem? hx.out) he (findB_first hx.out he HZ.out)
     subst q2;have HQ:=hD q1;have ne12:w.heap.size≠wr.heap.size:=by have:=g1.lt;omega
     clear he q1 hx;go_upto_region 7 with (fail)
     refine wpb1 (64) (#[.int .i64 x.at_,.int .i64 x.size,.int .i64 x.kind,.int .i64 x.ty,.bool x.mark,.int .u64 x.next.toNat]) ?_;rintro wa3 ⟨g2,b⟩
     try clear c_g1 f_g1 a_g1 d_g1 e_g1
     replace g1:=g1.below b;obtain ⟨c_g1,f_g1,a_g1,d_g1,e_g1⟩:=g1.five;replace B2:=B2.trans (b.mono B2.size);replace B:=B.trans (b.mono B.size);clear b;obtain ⟨c_g2,f_g2,a_g2,d_g2,e_g2⟩:=g2.five;go_wp2;refine bodyPost_ret (v:=.tuple #[.agg #[.int .i64 x.at_,.int .i64 x.size,.int .i64 x.kind,.int .i64 x.ty,.bool x.mark,.int .u64 x.next.toNat],.int .i64 0]) (by simp [results,Tryz.results103,go_sem,c_g1,f_g1,a_g1,e_g1,c_g2,f_g2,a_g2,e_g2]) rfl ?_;refine ⟨by rw [HQ.out],?_⟩
     exact bdn
    ·have k1:(x.at_==a)=false:=by rw [beq_eq_false_iff_ne];exact he
     have HZ2:Hid (∀i c,i<j+1→L[i]?=some c→c.at_≠a):=hD (fun i c hi hc=>by
      by_cases e:i=j
      ·subst e;rw [HX.out] at hc;injection hc with hc;subst hc;exact he
      ·exact HZ.out i c (by omega) hc)
     clear he hx;go_upto_region 7 with (fail)
     refine wpb1 (64) (#[.int .i64 x.at_,.int .i64 x.size,.int .i64 x.kind,.int .i64 x.ty,.bool x.mark,.int .u64 x.next.toNat]) ?_;rintro wa4 ⟨g2,b⟩
     replace B2:=B2.trans (b.mono B2.size);replace B:=B.trans (b.mono B.size);clear b;obtain ⟨c_g2,f_g2,a_g2,d_g2,e_g2⟩:=g2.five;have HQ:=hD (And.intro B2 HZ2.out)
     go_wp2
     go_roundg (N-(j+1))
     case measure=>omega
     case rel=>exact ⟨j+1,by omega,rfl,by go_num,HQ⟩
   ·obtain rfl:j=N:=by omega
    have hf:findB L a=none:=findB_none (fun y hy=>by
     obtain ⟨i,hi⟩:=List.getElem?_of_mem hy;exact HZ.out i y (by rw [HN.out];exact (List.getElem?_eq_some_iff.1 hi).1) hi)
    obtain ⟨q1,q2⟩:=HRB.out.2 hf;subst q2;have HQ:=hD q1;clear hf q1;have c_g1:=g1.cell;have f_g1:=g1.free;go_wp2;refine bodyPost_ret (v:=.tuple #[.agg #[.int .i64 0,.int .i64 0,.int .i64 0,.int .i64 0,.bool false,.int .u64 0],.int .i64 6]) (by simp [results,Tryz.results103,go_sem,c_g1,f_g1]) rfl ?_;refine ⟨by rw [HQ.out];rfl,?_⟩
    exact bdn
end
section
open Go.RowKit L02 L13 L18 L20
theorem float_any (x:UInt64) (b:Bool) (hb:b=decide (FloatOk x)) (w:World):Calls Tryz.prog 78 #[.int .u64 x.toNat] w fun e w'=>e=.returned (.bool b)∧Below w.heap.size w w':=by
 have B:=Below.refl w.heap.size w;have hxl:=toNat_lt x;have e1:=and_int (a:=(x.toNat:Int) / 4503599627370496) 11 (by omega) (by omega) 2047 (by decide) (by omega)
 rw [show ((2 ^ 11:Nat):Int)=2048 from rfl] at e1;have hwr:IntKind.u64.wrap ((x.toNat:Int)*4096)=(x.toNat:Int)*4096 % 18446744073709551616:=rfl;have HB:=hD hb;clear hb;go_in;go_wp2;all_goals
  go_ret
  refine ⟨ret_bool ?_,B⟩
  rw [HB.out]
  first
   | (rw [eq_comm,decide_eq_true_iff];unfold FloatOk;omega)
   | (rw [Bool.eq_iff_iff,decide_eq_true_iff];simp only [Bool.or_eq_true,beq_iff_eq];unfold FloatOk;omega)
theorem FloatR_any (x:UInt64) (b:Bool) (hb:b=decide (FloatOk x)) (w:World):Calls Tryz.prog 60 #[.int .u64 x.toNat] w fun e w'=>e=.returned (.bool b)∧Below w.heap.size w w':=by
 have B:=Below.refl w.heap.size w;have HB:=hD hb;clear hb;go_in;go_wp2;all_goals
  go_ret
  refine ⟨ret_bool ?_,B⟩
  rw [HB.out]
  rename_i hcase;first
   | (rw [beq_iff_eq] at hcase;rw [eq_comm,decide_eq_true_iff];unfold FloatOk;omega)
   | (rw [beq_eq_false_iff_ne] at hcase;rw [Bool.eq_iff_iff,decide_eq_true_iff,decide_eq_true_iff];unfold FloatOk;omega)
theorem slot_any (tv ov sv:Value) (m:Mo) (s:Sl) (b:Bool) (hb:b=decide (SlOk m.objs.length s)) (w:World) (h:Mod w tv ov sv m):
  Calls Tryz.prog 84 #[.agg #[tv,ov,sv],.agg #[.int .i64 s.gen,.bool s.used,.int .i64 s.at_]] w fun e w'=>e=.returned (.bool b)∧Below w.heap.size w w':=by
 have B:=Below.refl w.heap.size w;have lo:=h.o.len;have HB:=hD hb;clear hb;obtain ⟨N,hN⟩:=exq m.objs.length;rw [←hN] at lo HB;clear h hN;obtain ⟨g,u,a⟩:=s;dsimp only at *;cases u;all_goals
  go_in;go_wp2;all_goals
   go_ret
   refine ⟨ret_bool ?_,?_⟩
   ·rw [HB.out]
    exact bool_dec (by simp [SlOk];try omega)
   ·skip
    exact bdn
end
section
open Go.RowKit L02 L13 L18 L20
theorem fd_split (n:Nat) (k:UInt8) (v:UInt64):(¬FdOk n k v∧k.toNat=2∧¬FloatOk v)∨(¬FdOk n k v∧k.toNat=3∧n<v.toNat)∨(FdOk n k v∧k.toNat=2∧FloatOk v)∨(FdOk n k v∧k.toNat=3∧v.toNat≤n)∨(FdOk n k v∧k.toNat≠2∧k.toNat≠3):=by
 unfold FdOk;by_cases h2:k.toNat=2
 ·by_cases hf:FloatOk v
  ·exact .inr (.inr (.inl ⟨⟨fun _=>hf,fun h=>by omega⟩,h2,hf⟩))
  ·exact .inl ⟨fun h=>hf (h.1 h2),h2,hf⟩
 ·by_cases h3:k.toNat=3
  ·by_cases hv:v.toNat≤n
   ·exact .inr (.inr (.inr (.inl ⟨⟨fun h=>by omega,fun _=>hv⟩,h3,hv⟩)))
   ·exact .inr (.inl ⟨fun h=>hv (h.2 h3),h3,by omega⟩)
  ·exact .inr (.inr (.inr (.inr ⟨⟨fun h=>by omega,fun h=>by omega⟩,h2,h3⟩)))
theorem object_any (tv ov sv x:Value) (m:Mo) (o:Ob) (b:Bool) (hb:b=decide (ObOk m.types m.objs.length o)) (w:World) (h:Mod w tv ov sv m) (hx:Words w x o.fs):
  Calls Tryz.prog 83 #[.agg #[tv,ov,sv],.agg #[.int .i64 o.ty,x]] w fun e w'=>e=.returned (.bool b)∧Below w.heap.size w w':=by
 have B:=Below.refl w.heap.size w;have lt:=h.t.len;have lo:=h.o.len;have lx:=Rd.len hx Tryz.underlying22;have lo':=h.o.len_le;have lx':=Rd.len_le hx;obtain ⟨NT,hNT⟩:=exq m.types.length;obtain ⟨NO,hNO⟩:=exq m.objs.length;obtain ⟨n,hn⟩:=exq o.fs.length;rw [←hNT] at lt;rw [←hNO] at lo lo' hb;rw [←hn] at lx lx';have H:=hD h;have HX:=hD hx;have HNT:=hD hNT;have HN:=hD hn;clear h hx hNO;by_cases hty:0≤o.ty∧o.ty<NT
 ·obtain ⟨k,hk⟩:=Int.eq_ofNat_of_zero_le hty.1;rw [hk] at hty ⊢;have hkt:k<m.types.length:=by omega
  obtain ⟨ad,y,t,iy,m0,ht,hby⟩:=H.out.t.at_ hkt;have ht':ty m.types o=t:=by rw [ty,hk];simp [List.getD_eq_getElem?_getD,ht.out]
  have ly:=Rd.len hby.out Tryz.underlying66;obtain ⟨nt,hnt⟩:=exq t.length;rw [←hnt] at ly;have HNt:=hD hnt;have ha:decide ((k:Int)<0)=false:=by rw [decide_eq_false_iff_not];omega
  have hb1:decide ((NT:Int)≤(k:Int))=false:=by rw [decide_eq_false_iff_not];omega
  have hb2:decide (NT≤k)=false:=by rw [decide_eq_false_iff_not];omega
  by_cases hl:n=nt
  ·have hc:((n:Int) != (nt:Int))=false:=by rw [bne_eq_false_iff_eq];omega
   have hok:b=decide (∀i,i<n→FdOk NO (t.getD i 0) (o.fs.getD i 0)):=by
    rw [hb]
    congr 1;rw [eq_iff_iff,ObOk,ht']
    refine ⟨fun hh i hi=>hh.2.2 i (by omega),fun hh=>⟨by omega,by omega,fun i hi=>hh i (by omega)⟩⟩
   have HOK:=hD hok;have HL:=hD hl;clear hb hok ht' hkt hNT hn hnt hl;go_in;go_upto_region 1 with (fail)
   refine wpb11 (31) (#[tv,ov,sv]) (68) (#[.int .i64 (k:Int),x]) ?_;rintro wa1 ⟨g1,g2,b⟩
   replace m0:=cell_later b m0;replace B:=B.trans (b.mono B.size);clear b;replace c_g1:=g1.five;replace c_g2:=g2.five;refine wp_region_calm (by kernel_rfl) (by kernel_rfl) ?_;replace c_g1:=fun x:Fut _=>(g1.below x.h).cell;replace c_g2:=fun x:Fut _=>(g2.below x.h).cell;have c_m0:=fun x:Fut _=>cell_later x.h m0;repeat (go_big_quiet_step (fail))
   refine wpQuiet_nil ?_;intro _ hw';obtain ⟨xq,hw''⟩:=hw';subst hw'';clear c_m0;replace m0:=cell_later xq.h m0;replace g1:=g1.below xq.h;replace c_g1:=g1.five;replace g2:=g2.below xq.h;replace c_g2:=g2.five;replace B:=B.trans (xq.h.mono B.size)
   go_wp2;have HB:=hD B;have HG1:=hD g1;have HG2:=hD g2;clear B g1 g2 m0 c_g1 c_g2
   go_loopg [39] n (fun g i wr=>∃j:Nat,j≤n∧g=n-j∧i=.int .i64 j∧Hid ((∀i,i<j→FdOk NO (t.getD i 0) (o.fs.getD i 0))∧Bx wr w.heap.size 31 #[tv,ov,sv]∧Bx wr (w.heap.size+1) 68 #[.int .i64 (k:Int),x]∧Below w.heap.size w wr))
   case atStart=>exact ⟨0,by omega,by omega,rfl,hD ⟨fun i hi=>by omega,HG1.out,HG2.out,HB.out⟩⟩
   case round=>
    obtain ⟨j,hj,rfl,rfl,hh⟩:=hrel;by_cases hlt:j<n
    ·have g1:=hh.out.2.1;have g2:=hh.out.2.2.1;have c_g1:=g1.cell;have c_g2:=g2.cell;obtain ⟨bd,kk,ib,m1,hkk⟩:=(hby.out.below hh.out.2.2.2).at_ (P:=Tryz.prog) Tryz.underlying66 one_u8 (k:=j) (by have:=HNt.out;have:=HL.out;omega)
     obtain ⟨cd,v,ic,m2,hv⟩:=(HX.out.below hh.out.2.2.2).at_ (P:=Tryz.prog) Tryz.underlying22 one_u64 (k:=j) (by have:=HN.out;omega)
     have ek:t.getD j 0=kk:=by simp [List.getD_eq_getElem?_getD,hkk.out]
     have ev:o.fs.getD j 0=v:=by simp [List.getD_eq_getElem?_getD,hv.out]
     have EK:=hD ek;have EV:=hD ev;have hjt:j<nt:=by have:=HL.out;omega
     clear hkk hv ek ev;have hwn:IntKind.u64.wrap ((NO:Nat):Int)=(NO:Int):=by show (NO:Int) % 18446744073709551616=_;omega
     have FT:=hD (float_any v)
     have hcase:=fd_split NO kk v;have hno:∀z,FdOk NO kk v=z→(z→False)→b=false:=fun z hz hf=>by
      rw [HOK.out,decide_eq_false_iff_not]
      intro hall
      have:=hall j hlt;rw [EK.out,EV.out,hz] at this;exact hf this
     have HNO:=hD hno;clear hno;rcases hcase with ⟨z,e2,zf⟩ | ⟨z,e3,zf⟩ | ⟨z,e2,zf⟩ | ⟨z,e3,zf⟩ | ⟨z,e2,e3⟩
     ·have hbf:b=false:=HNO.out _ rfl z;have k2:((kk.toNat:Int)==2)=true:=by rw [beq_iff_eq];omega
      have FT1:=hD (FT.out false (decide_eq_false zf).symm)
      clear z e2 zf FT;subst hbf;go_wp2_with fail;refine (FT1.out _).mono ?_;rintro e w2 ⟨rfl,b2⟩
      have B:=hh.out.2.2.2.trans (b2.mono hh.out.2.2.2.size)
      go_wp2
      go_ret
      exact ⟨rfl,B⟩
     ·have hbf:b=false:=HNO.out _ rfl z;have k2:((kk.toNat:Int)==2)=false:=by rw [beq_eq_false_iff_ne];omega
      have k3:((kk.toNat:Int)==3)=true:=by rw [beq_iff_eq];omega
      clear z e3 FT;subst hbf;go_wp2
      go_ret
      exact ⟨rfl,hh.out.2.2.2⟩
     ·have k2:((kk.toNat:Int)==2)=true:=by rw [beq_iff_eq];omega
      have k3:((kk.toNat:Int)==3)=false:=by rw [beq_eq_false_iff_ne];omega
      have FT1:=hD (FT.out true (decide_eq_true zf).symm)
      have HZ:=hD z;clear z e2 zf FT;go_wp2_with fail;refine (FT1.out _).mono ?_;rintro e w2 ⟨rfl,b2⟩
      have HH:=hD (And.intro (hh.out.2.1.below b2) (And.intro (hh.out.2.2.1.below b2) (hh.out.2.2.2.trans (b2.mono hh.out.2.2.2.size))))
      clear b2 m1 m2 g1 g2 c_g1 c_g2;go_wp2
      go_roundg (n-(j+1))
      case measure=>omega
      case rel=>
       refine ⟨j+1,by omega,rfl,by go_num,hD ⟨fun i hi=>?_,HH.out⟩⟩
       by_cases hij:i<j
       ·exact hh.out.1 i hij
       ·obtain rfl:i=j:=by omega
        rw [EK.out,EV.out];exact HZ.out
     ·have k2:((kk.toNat:Int)==2)=false:=by rw [beq_eq_false_iff_ne];omega
      have k3:((kk.toNat:Int)==3)=true:=by rw [beq_iff_eq];omega
      have HZ:=hD z;have zf2:¬NO<v.toNat:=by omega
      clear z e3 FT zf;go_wp2
      go_roundg (n-(j+1))
      case measure=>omega
      case rel=>
       refine ⟨j+1,by omega,rfl,by go_num,hD ⟨fun i hi=>?_,hh.out.2⟩⟩
       by_cases hij:i<j
       ·exact hh.out.1 i hij
       ·obtain rfl:i=j:=by omega
        rw [EK.out,EV.out];exact HZ.out
     ·have k2:((kk.toNat:Int)==2)=false:=by rw [beq_eq_false_iff_ne];omega
      have k3:((kk.toNat:Int)==3)=false:=by rw [beq_eq_false_iff_ne];omega
      have HZ:=hD z;clear z e2 e3 FT;go_wp2
      go_roundg (n-(j+1))
      case measure=>omega
      case rel=>
       refine ⟨j+1,by omega,rfl,by go_num,hD ⟨fun i hi=>?_,hh.out.2⟩⟩
       by_cases hij:i<j
       ·exact hh.out.1 i hij
       ·obtain rfl:i=j:=by omega
        rw [EK.out,EV.out];exact HZ.out
    ·obtain rfl:j=n:=by omega
     have hbt:b=true:=by rw [HOK.out,decide_eq_true_iff];exact fun i hi=>hh.out.1 i hi
     have hntn:¬j<nt:=by have:=HL.out;omega
     subst hbt;go_wp2
     go_ret
     exact ⟨rfl,hh.out.2.2.2⟩
  ·have hc:((n:Int) != (nt:Int))=true:=by rw [bne_iff_ne];omega
   have hbf:b=false:=by
    rw [hb,decide_eq_false_iff_not,ObOk,ht']
    intro hh;omega
   subst hbf;clear hb ht' hkt hNT hn hnt hl;go_in;go_upto_region 1 with (fail)
   refine wpb11 (31) (#[tv,ov,sv]) (68) (#[.int .i64 (k:Int),x]) ?_;rintro wa1 ⟨g1,g2,b⟩
   replace m0:=cell_later b m0;replace B:=B.trans (b.mono B.size);clear b;replace c_g1:=g1.five;replace c_g2:=g2.five;refine wp_region_calm (by kernel_rfl) (by kernel_rfl) ?_;replace c_g1:=fun x:Fut _=>(g1.below x.h).cell;replace c_g2:=fun x:Fut _=>(g2.below x.h).cell;have c_m0:=fun x:Fut _=>cell_later x.h m0;repeat (go_big_quiet_step (fail))
   refine wpQuiet_nil ?_;intro _ hw';obtain ⟨xq,hw''⟩:=hw';subst hw'';clear c_m0;replace m0:=cell_later xq.h m0;replace g1:=g1.below xq.h;replace c_g1:=g1.five;replace g2:=g2.below xq.h;replace c_g2:=g2.five;replace B:=B.trans (xq.h.mono B.size)
   go_wp2
   go_ret
   exact ⟨rfl,B⟩
 ·have hbf:b=false:=by
   rw [hb,decide_eq_false_iff_not,ObOk]
   intro hh;omega
  subst hbf;obtain ⟨ty,fs⟩:=o;dsimp only at *;by_cases hneg:ty<0
  ·have ha:decide (ty<0)=true:=decide_eq_true hneg;clear hb hNT hn hty hneg;go_in;go_upto_region 1 with (fail)
   refine wpb11 (31) (#[tv,ov,sv]) (68) (#[.int .i64 ty,x]) ?_;rintro wa1 ⟨g1,g2,b⟩
   replace B:=B.trans (b.mono B.size);clear b;replace c_g1:=g1.five;replace c_g2:=g2.five;refine wp_region_calm (by kernel_rfl) (by kernel_rfl) ?_;replace c_g1:=fun x:Fut _=>(g1.below x.h).cell;replace c_g2:=fun x:Fut _=>(g2.below x.h).cell;repeat (go_big_quiet_step (fail))
   refine wpQuiet_nil ?_;intro _ hw';obtain ⟨xq,hw''⟩:=hw';subst hw'';replace g1:=g1.below xq.h;replace c_g1:=g1.five;replace g2:=g2.below xq.h;replace c_g2:=g2.five;replace B:=B.trans (xq.h.mono B.size)
   go_wp2
   go_ret
   exact ⟨rfl,B⟩
  ·have ha:decide (ty<0)=false:=decide_eq_false hneg;have hb1:decide ((NT:Int)≤ty)=true:=by rw [decide_eq_true_iff];omega
   clear hb hNT hn hty hneg;go_in;go_upto_region 1 with (fail)
   refine wpb11 (31) (#[tv,ov,sv]) (68) (#[.int .i64 ty,x]) ?_;rintro wa1 ⟨g1,g2,b⟩
   replace B:=B.trans (b.mono B.size);clear b;replace c_g1:=g1.five;replace c_g2:=g2.five;refine wp_region_calm (by kernel_rfl) (by kernel_rfl) ?_;replace c_g1:=fun x:Fut _=>(g1.below x.h).cell;replace c_g2:=fun x:Fut _=>(g2.below x.h).cell;repeat (go_big_quiet_step (fail))
   refine wpQuiet_nil ?_;intro _ hw';obtain ⟨xq,hw''⟩:=hw';subst hw'';replace g1:=g1.below xq.h;replace c_g1:=g1.five;replace g2:=g2.below xq.h;replace c_g2:=g2.five;replace B:=B.trans (xq.h.mono B.size)
   go_wp2
   go_ret
   exact ⟨rfl,B⟩
end
section
open Go.RowKit L02 L13 L18 L20
theorem Check20_any (tv ov sv:Value) (m:Mo) (r:Int) (hr:r=chk m) (w:World) (h:Mod w tv ov sv m):
  Calls Tryz.prog 37 #[.agg #[tv,ov,sv]] w fun e w'=>e=.returned (.int .i64 r)∧Below w.heap.size w w':=by
 have B:=Below.refl w.heap.size w;have lt:=h.t.len;have lo:=h.o.len;have ls:=h.s.len;have lt':=h.t.len_le;have lo':=h.o.len_le;have ls':=h.s.len_le;have hbig:8<m.types.length∨960<m.objs.length→r=4:=fun hm=>by rw [hr,chk_many hm]
 have hbad:¬(8<m.types.length∨960<m.objs.length)→¬MoOk m→r=8:=fun h1 h2=>by rw [hr,chk_bad h1 h2]
 have hgood:¬(8<m.types.length∨960<m.objs.length)→MoOk m→r=0:=fun h1 h2=>by rw [hr,chk_zero h1 h2]
 obtain ⟨NT,hNT⟩:=exq m.types.length;obtain ⟨NO,hNO⟩:=exq m.objs.length;obtain ⟨NS,hNS⟩:=exq m.slots.length;rw [←hNT] at lt lt' hbig hbad hgood;rw [←hNO] at lo lo' hbig hbad hgood;rw [←hNS] at ls ls';have H:=hD h;have HNT:=hD hNT;have HNO:=hD hNO;have HNS:=hD hNS;clear h hr hNT hNO hNS;by_cases h1:8<NT
 ·have hr4:=hbig (.inl h1)
  clear hbig hbad hgood;subst hr4;go_in;go_wp2
  go_ret
  exact ⟨rfl,B.alloc B.size _⟩
 by_cases h2:960<NO
 ·have hr4:=hbig (.inr h2)
  clear hbig hbad hgood;subst hr4;go_in;go_wp2
  go_ret
  exact ⟨rfl,B.alloc B.size _⟩
 have hnm:¬(8<NT∨960<NO):=by omega
 have HBAD:=hD (hbad hnm);have HGOOD:=hD (hgood hnm)
 clear hbig hbad hgood hnm;by_cases h3:NS=16
 ·have h3':((NS:Int) != 16)=false:=by rw [bne_eq_false_iff_eq];omega
  have HS3:=hD h3;clear h3;go_in;go_upto_region 1 with (fail)
  refine wpb1 (31) (#[tv,ov,sv]) ?_;rintro wa1 ⟨g1,b⟩
  replace B:=B.trans (b.mono B.size);clear b;replace c_g1:=g1.five;have HB:=hD B;clear B;go_wp2;have HG1:=hD g1;clear g1 c_g1
  go_loopg [26] NT (fun g i wr=>∃j:Nat,j≤NT∧g=NT-j∧i=.int .i64 j∧Hid ((∀(i:Nat) t,i<j→m.types[i]?=some t→kErr t=0)∧Bx wr w.heap.size 31 #[tv,ov,sv]∧Below w.heap.size w wr))
  case atStart=>exact ⟨0,by omega,by omega,rfl,hD ⟨fun i t hi=>by omega,HG1.out,HB.out⟩⟩
  case round=>
   clear HG1 HB;obtain ⟨j,hj,rfl,rfl,hh⟩:=hrel;by_cases hlt:j<NT
   ·obtain ⟨ad,y,t,iy,m0,ht,hby⟩:=(H.out.t.below hh.out.2.2).at_ (k:=j) (by have:=HNT.out;omega)
    by_cases hk:kErr t=0
    ·have KT:=hD (KCheck_any y t 0 hk.symm)
     have HK:=hD hk;clear hk;go_wp2_with fail;refine (KT.out _ hby.out).mono ?_;rintro e w2 ⟨rfl,rfl⟩
     go_wp2
     go_roundg (NT-(j+1))
     case measure=>omega
     case rel=>
      refine ⟨j+1,by omega,rfl,by go_num,hD ⟨fun i u hi hu=>?_,hh.out.2⟩⟩
      by_cases hij:i<j
      ·exact hh.out.1 i u hij hu
      ·obtain rfl:i=j:=by omega
       have:=ht.out;rw [hu] at this;injection this with this;subst this;exact HK.out
    ·have hr8:=HBAD.out (no_type ht.out hk)
     subst hr8;obtain ⟨z,hz⟩:=exq (kErr t)
     have KT:=hD (KCheck_any y t z hz)
     have hne:(z != 0)=true:=by rw [bne_iff_ne,hz];exact hk
     clear hk hz;go_wp2_with fail;refine (KT.out _ hby.out).mono ?_;rintro e w2 ⟨rfl,rfl⟩
     go_wp2
     go_ret
     exact ⟨rfl,hh.out.2.2⟩
   ·obtain rfl:j=NT:=by omega
    have HT:=hD (hh.out.1);have g1:=hh.out.2.1;have HB:=hD hh.out.2.2;clear hh;have c_g1:=g1.cell;go_wp2;have HG1:=hD g1;clear g1 c_g1
    go_loopg [37] NO (fun g i wr=>∃k:Nat,k≤NO∧g=NO-k∧i=.int .i64 k∧Hid ((∀(i:Nat) o,i<k→m.objs[i]?=some o→ObOk m.types m.objs.length o)∧Bx wr w.heap.size 31 #[tv,ov,sv]∧Below w.heap.size w wr))
    case atStart=>exact ⟨0,by omega,by omega,rfl,hD ⟨fun i t hi=>by omega,HG1.out,HB.out⟩⟩
    case round=>
     clear HG1 HB;obtain ⟨k,hk,rfl,rfl,hh⟩:=hrel;by_cases hltk:k<NO
     ·obtain ⟨ob,oq,x,o,ix,m0,m1,ho,hx,hob⟩:=(H.out.o.below hh.out.2.2).at_ (k:=k) (by have:=HNO.out;omega)
      obtain ⟨z,hz⟩:=exq (decide (ObOk m.types m.objs.length o))
      have OT:=hD (object_any tv ov sv x m o z hz)
      have HZ:=hD hz;clear hz;have g1:=hh.out.2.1;have B:=hh.out.2.2;have HA:=hD hh.out.1;have hxx:=hx.out;obtain ⟨xA,xn,xc,rfl⟩:∃A n c,x=.slice A n c:=by obtain ⟨A,c,e,_⟩:=hx.out;exact ⟨A,_,c,e⟩
      clear hx;have H1:=hD (H.out.below B)
      have c_g1:=g1.cell;go_upto_region 14 with (fail)
      refine wpb1 (68) (#[.int .i64 o.ty,.slice xA xn xc]) ?_;rintro wa1 ⟨g2,b⟩
      replace g1:=g1.below b;replace c_g1:=g1.five;replace hxx:=hxx.below b;replace B:=B.trans (b.mono B.size);clear b;replace c_g2:=g2.five;go_wp2_with fail;refine (OT.out _ (H.out.below B) hxx).mono ?_;rintro e w2 ⟨rfl,b2⟩
      replace B:=B.trans (b2.mono B.size)
      cases z
      ·have hbad:=HBAD.out (no_obj ho.out (by have:=HZ.out;rw [eq_comm,decide_eq_false_iff_not] at this;exact this))
       subst hbad;clear b2;go_wp2
       go_ret
       exact ⟨rfl,B⟩
      ·have HH:=hD (And.intro (g1.below b2) B)
       clear b2 g1 g2 c_g1 c_g2 B m0 m1;go_wp2
       go_roundg (NO-(k+1))
       case measure=>omega
       case rel=>
        refine ⟨k+1,by omega,rfl,by go_num,hD ⟨fun i u hi hu=>?_,HH.out⟩⟩
        by_cases hik:i<k
        ·exact HA.out i u hik hu
        ·obtain rfl:i=k:=by omega
         have:=ho.out;rw [hu] at this;injection this with this;subst this
         have:=HZ.out;rw [eq_comm,decide_eq_true_iff] at this;exact this
     ·obtain rfl:k=NO:=by omega
      have HO:=hD (hh.out.1);have g1:=hh.out.2.1;have HB:=hD hh.out.2.2;clear hh;have c_g1:=g1.cell;go_wp2;have HG1:=hD g1;clear g1 c_g1
      go_loopg [49] 16 (fun g i wr=>∃q:Nat,q≤16∧g=16-q∧i=.int .i64 q∧Hid ((∀(i:Nat) o,i<q→m.slots[i]?=some o→SlOk m.objs.length o)∧Bx wr w.heap.size 31 #[tv,ov,sv]∧Below w.heap.size w wr))
      case atStart=>exact ⟨0,by omega,by omega,rfl,hD ⟨fun i t hi=>by omega,HG1.out,HB.out⟩⟩
      case round=>
       clear HG1 HB;obtain ⟨q,hq,rfl,rfl,hh⟩:=hrel;by_cases hltq:q<16
       ·have hqn:q<NS:=by have:=HS3.out;omega
        obtain ⟨sb,sq,s,ix,m0,m1,m2,hs⟩:=(H.out.s.below hh.out.2.2).at_ (P:=Tryz.prog) Tryz.underlying29 size_slot (k:=q) (by have:=HNS.out;omega)
        obtain ⟨z,hz⟩:=exq (decide (SlOk m.objs.length s))
        have ST:=hD (slot_any tv ov sv m s z hz)
        have HZ:=hD hz;clear hz;have g1:=hh.out.2.1;have B:=hh.out.2.2;have HA:=hD hh.out.1;have c_g1:=g1.cell;go_upto_region 20 with (fail)
        refine wpb1 (37) (#[.int .i64 s.gen,.bool s.used,.int .i64 s.at_]) ?_;rintro wa1 ⟨g2,b⟩
        replace g1:=g1.below b;replace c_g1:=g1.five;replace B:=B.trans (b.mono B.size);clear b;replace c_g2:=g2.five;go_wp2_with fail;refine (ST.out _ (H.out.below B)).mono ?_;rintro e w2 ⟨rfl,b2⟩
        replace B:=B.trans (b2.mono B.size)
        cases z
        ·have hbad:=HBAD.out (no_slot hs.out (by have:=HZ.out;rw [eq_comm,decide_eq_false_iff_not] at this;exact this))
         subst hbad;clear b2;go_wp2
         go_ret
         exact ⟨rfl,B⟩
        ·have HH:=hD (And.intro (g1.below b2) B)
         clear b2 g1 g2 c_g1 c_g2 B m0 m1 m2;go_wp2
         go_roundg (16-(q+1))
         case measure=>omega
         case rel=>
          refine ⟨q+1,by omega,rfl,by go_num,hD ⟨fun i u hi hu=>?_,HH.out⟩⟩
          by_cases hik:i<q
          ·exact HA.out i u hik hu
          ·obtain rfl:i=q:=by omega
           have:=hs.out;rw [hu] at this;injection this with this;subst this
           have:=HZ.out;rw [eq_comm,decide_eq_true_iff] at this;exact this
       ·obtain rfl:q=16:=by omega
        have hmo:MoOk m:=by
         refine ⟨by rw [←HNS.out];exact HS3.out,fun t ht=>?_,fun o ho=>?_,fun s hs=>?_⟩
         ·obtain ⟨i,hi,hit⟩:=List.getElem_of_mem ht;exact HT.out i t (by rw [HNT.out];exact hi) (by rw [List.getElem?_eq_getElem hi,hit])
         ·obtain ⟨i,hi,hit⟩:=List.getElem_of_mem ho;exact HO.out i o (by rw [HNO.out];exact hi) (by rw [List.getElem?_eq_getElem hi,hit])
         ·obtain ⟨i,hi,hit⟩:=List.getElem_of_mem hs;exact hh.out.1 i s (by have:=HNS.out;have:=HS3.out;omega) (by rw [List.getElem?_eq_getElem hi,hit])
        have hr0:=HGOOD.out hmo;subst hr0;have hns:¬(16:Int)<NS:=by have:=HS3.out;omega
        have hns':decide ((16:Int)<NS)=false:=decide_eq_false hns;obtain rfl:=HS3.out;go_wp2
        go_ret
        exact ⟨rfl,hh.out.2.2⟩
 ·have hr8:=HBAD.out (fun hm=>h3 (by rw [HNS.out];exact hm.1))
  subst hr8;have h3':((NS:Int) != 16)=true:=by rw [bne_iff_ne];omega
  clear h3;go_in;go_wp2
  go_ret
  exact ⟨rfl,B.alloc B.size _⟩
end
end Go.Proofs.YteejianjjpdimaaGreat
