/- Contracts of the functions that the laws 'T' reach, part 7. No condition. -/
import Derived.Test.YteejianjjpdimaaGreatMTf
set_option linter.unusedVariables false
set_option linter.unusedSimpArgs false
set_option maxRecDepth 100000
set_option maxHeartbeats 8000000
namespace Go.Proofs.YteejianjjpdimaaGreat.L19
open L02 L07 L13 L14 L15 L18
theorem objs_at {l:List UInt64} (h:allErr l=0) {b:Hb} (hb:b∈O19 l):∃a:Nat,128≤a∧b.at_=a∧b.size=szN l a∧a+szN l a≤l.length∧StOk l a∧b=stand l a∧b.kind=1∧2≤szN l a∧a % 2=0:=by
 obtain ⟨hm,hk⟩:=objs_mem.1 hb;obtain ⟨a,h1,h2,h3,h4,h5⟩:=all_mem h hm;have hz:=szN_ge h3;exact ⟨a,h1,by rw [h4];rfl,by rw [h4];exact stand_size h3,hz.2.2.2.1,h3,h4,hk,hz.1,h5⟩
theorem obj_set {l:List UInt64} (h:allErr l=0) {b:Hb} (hb:b∈O19 l) {p:Nat} {v:UInt64} (h1:b.at_+2≤p) (h2:(p:Int)<b.at_+b.size):
  allErr (l.set p v)=0∧allL (l.set p v)=allL l:=by
 obtain ⟨hs,hp⟩:=allErr_ok h;obtain ⟨hfr,hadj⟩:=parsed_ok.1 hp;obtain ⟨hbm,hbk⟩:=objs_mem.1 hb;have far:∀c∈allL l,c.at_≠(p:Int)∧p≠c.at_.toNat+1:=fun c hc=>by
  obtain ⟨a,_,_,h3,h4,_⟩:=all_mem h hc;have hz:=szN_ge h3;have hsz:c.size=szN l a:=by rw [h4];exact stand_size h3
  have hat:c.at_=a:=by rw [h4];rfl
  rcases all_apart h hbm hc with rfl | h5 | h5 <;> omega
 have hc:=chain_set (v:=v) (chain_iff.1 hfr) (fun c hc=>(far c hc).1)
 have hid:(allL l).map (fun c=>{ c with next:=(l.set p v).getD (c.at_.toNat+1) 0 })=allL l:=by
  refine List.map_congr_left (g:=id) (fun c hc=>?_) |>.trans (List.map_id _)
  obtain ⟨a,_,_,h3,h4,_⟩:=all_mem h hc;have hat:c.at_=a:=by rw [h4];rfl
  show { c with next:=(l.set p v).getD (c.at_.toNat+1) 0 }=c;rw [getD_set_ne (far c hc).2,hat,Int.toNat_natCast]
  rw [h4];rfl
 rw [hid] at hc;have hp2:parsed (l.set p v)=some (allL l):=parsed_ok.2 ⟨from_chain hc,hadj⟩
 have he:allErr (l.set p v)=0:=by unfold allErr;rw [List.length_set,if_pos hs,hp2];rfl
 exact ⟨he,by rw [allL,if_pos he,hp2];rfl⟩
structure Rt (l:List UInt64):Prop where
 sz:SizeOk l.length
 tw:rErr l=0
 z16:Zr l 16
 z24:Zr l 24
 ty:tabErr l (sT l)=0
 sl:openErr l=0
 al:allErr l=0
 good:∀i,7≤i→i<12→AllGood l (T19 l) (O19 l) i
 slots:SlotsGood (slots l) (O19 l)
theorem Rt.of {l:List UInt64} (h:chk19 l=0):Rt l:=by
 obtain ⟨hs,hw⟩:=chk19_ok h;obtain ⟨h6,hg,hsl⟩:=why_zero.1 hw;obtain ⟨a,b,c,d,e,f⟩:=why6_zero.1 h6;exact ⟨hs,a,b,c,d,e,f,hg,hsl⟩
theorem Rt.why {l:List UInt64} (h:Rt l):why l=0:=why_zero.2 ⟨why6_zero.2 ⟨h.tw,h.z16,h.z24,h.ty,h.sl,h.al⟩,h.good,h.slots⟩
theorem Rt.chk {l:List UInt64} (h:Rt l):chk19 l=0:=by rw [chk19,if_pos h.sz,if_pos h.why]
def FdR (O:List Hb) (k:UInt8) (v:UInt64):Prop:=(k.toNat=2→L20.FloatOk v)∧(k.toNat=3→v=0∨IsObj O v.toNat)
structure FS (l:List UInt64) (b:Hb) (i p:Nat) (v:UInt64):Prop where
 tw:rErr (l.set p v)=0
 sT:sT (l.set p v)=sT l
 z16:Zr (l.set p v) 16
 z24:Zr (l.set p v) 24
 ty:tabErr (l.set p v) (L07.sT l)=0
 tyT:T19 (l.set p v)=T19 l
 sl:openErr (l.set p v)=0
 slL:slots (l.set p v)=slots l
 al:allErr (l.set p v)=0
 alL:allL (l.set p v)=allL l
 fwb:fw (l.set p v) b i=v
 fwo:∀c∈O19 l,∀j,j≤(kindsB (T19 l) c).length→((kindsB (T19 l) c).length % 2=0→j<(kindsB (T19 l) c).length)→(c≠b∨j≠i)→fw (l.set p v) c j=fw l c j
theorem Rt.fs {l:List UInt64} (h:Rt l) {b:Hb} (hb:b∈O19 l) {i p:Nat} (v:UInt64) (hi:i<(kindsB (T19 l) b).length) (hp:p=b.at_.toNat+2+i):FS l b i p v:=by
 obtain ⟨a,h1,h2,h3,h4,h5,h6,h7,h8,_⟩:=objs_at h.al hb;have hsz:=(h.good 8 (by omega) (by omega) b hb).2;have hpb:b.at_+2≤p∧(p:Int)<b.at_+b.size:=by omega
 have ho:=obj_set (v:=v) h.al hb hpb.1 hpb.2;have a1:=rErr_set (l:=l) (v:=v) (p:=p) (by omega)
 have a4:=tabErr_set (l:=l) (v:=v) (p:=p) (by omega)
 have a5:=open_set (l:=l) (v:=v) (p:=p) (by omega)
 refine ⟨a1.1.trans h.tw,a1.2.1,(zr_set (by omega)).2 h.z16,(zr_set (by omega)).2 h.z24,(a4 _).1.trans h.ty,by unfold T19;rw [a1.2.1,(a4 _).2],a5.1.trans h.sl,a5.2,ho.1,ho.2,?_,?_⟩
 ·unfold fw;rw [←hp];exact getD_set_self (by omega)
 ·intro c hc j hj hj2 hne;refine fw_set ?_;obtain ⟨a',g1,g2,g3,g4,g5,g6,_,_,_⟩:=objs_at h.al hc;have hsz':=(h.good 8 (by omega) (by omega) c hc).2;rcases all_apart h.al (objs_mem.1 hb).1 (objs_mem.1 hc).1 with e | h5 | h5
  ·subst e
   have:=hne.resolve_left (fun h=>h rfl)
   omega
  ·omega
  ·have:(kindsB (T19 l) c).length % 2=0∨(kindsB (T19 l) c).length % 2=1:=by omega
   omega
theorem FS.why {l:List UInt64} (h:Rt l) {b:Hb} (hb:b∈O19 l) {i p:Nat} {v:UInt64} {k:UInt8} (hi:i<(kindsB (T19 l) b).length) (hk:(kindsB (T19 l) b).getD i 0=k) (f:FS l b i p v):
  why (l.set p v)=if k.toNat=2∧¬L20.FloatOk v then 10 else if k.toNat=3∧¬(v=0∨IsObj (O19 l) v.toNat) then 11 else 0:=by
 have eO:O19 (l.set p v)=O19 l:=by unfold O19;rw [f.alL]
 have h6:why6 (l.set p v)=0:=why6_zero.2 ⟨f.tw,f.z16,f.z24,by rw [f.sT];exact f.ty,f.sl,f.al⟩
 have g7:AllGood (l.set p v) (T19 l) (O19 l) 7:=h.good 7 (by omega) (by omega)
 have g8:AllGood (l.set p v) (T19 l) (O19 l) 8:=h.good 8 (by omega) (by omega)
 have g9:AllGood (l.set p v) (T19 l) (O19 l) 9:=fun c hc=>by
  have:=h.good 9 (by omega) (by omega) c hc;show Padded _ _ _;have this:Padded l (T19 l) c:=this;rcases this with h1 | h1
  ·exact .inl h1
  ·by_cases h2:(kindsB (T19 l) c).length % 2=0
   ·exact .inl h2
   ·refine .inr ?_;rw [f.fwo c hc _ (Nat.le_refl _) (fun e=>absurd e h2)]
    ·exact h1
    ·by_cases e:c=b
     ·subst e;right;omega
     ·left;exact e
 have g10:AllGood (l.set p v) (T19 l) (O19 l) 10↔¬(k.toNat=2∧¬L20.FloatOk v):=by
  constructor
  ·intro hh h2
   have:=hh b hb i hi (by rw [hk];exact h2.1)
   rw [f.fwb] at this;exact h2.2 this
  ·intro hh c hc j hj hj2;by_cases e:c=b∧j=i
   ·obtain ⟨rfl,rfl⟩:=e;rw [f.fwb]
    rw [hk] at hj2;exact Decidable.not_not.1 fun h3=>hh ⟨hj2,h3⟩
   ·rw [f.fwo c hc j (by omega) (fun _=>hj) (by
     by_cases e1:c=b
     ·right;exact fun e2=>e ⟨e1,e2⟩
     ·left;exact e1)]
    exact h.good 10 (by omega) (by omega) c hc j hj hj2
 have g11:AllGood (l.set p v) (T19 l) (O19 l) 11↔¬(k.toNat=3∧¬(v=0∨IsObj (O19 l) v.toNat)):=by
  constructor
  ·intro hh h2
   have:=hh b hb i hi (by rw [hk];exact h2.1)
   rw [f.fwb] at this;exact h2.2 this
  ·intro hh c hc j hj hj2;by_cases e:c=b∧j=i
   ·obtain ⟨rfl,rfl⟩:=e;rw [f.fwb]
    rw [hk] at hj2;exact Decidable.not_not.1 fun h3=>hh ⟨hj2,h3⟩
   ·rw [f.fwo c hc j (by omega) (fun _=>hj) (by
     by_cases e1:c=b
     ·right;exact fun e2=>e ⟨e1,e2⟩
     ·left;exact e1)]
    exact h.good 11 (by omega) (by omega) c hc j hj hj2
 unfold L19.why;rw [h6,eO,f.tyT,f.slL]
 simp only [whyO,if_pos g7,if_pos g8,if_pos g9]
 have hs:=h.slots;by_cases c2:k.toNat=2∧¬L20.FloatOk v
 ·rw [if_pos c2,if_neg (fun h=>g10.1 h c2)];rfl
 ·rw [if_neg c2,if_pos (g10.2 c2)]
  by_cases c3:k.toNat=3∧¬(v=0∨IsObj (O19 l) v.toNat)
  ·rw [if_pos c3,if_neg (fun h=>g11.1 h c3)];rfl
  ·rw [if_neg c3,if_pos (g11.2 c3)]
   simp [hs]
theorem FS.rt {l:List UInt64} (h:Rt l) {b:Hb} (hb:b∈O19 l) {i p:Nat} {v:UInt64} {k:UInt8} (hi:i<(kindsB (T19 l) b).length) (hk:(kindsB (T19 l) b).getD i 0=k) (f:FS l b i p v) (hv:FdR (O19 l) k v):Rt (l.set p v):=by
 refine Rt.of ?_;rw [chk19,if_pos (by rw [List.length_set];exact h.sz),if_pos]
 rw [f.why h hb hi hk,if_neg (fun e=>e.2 (hv.1 e.1)),if_neg (fun e=>e.2 (hv.2 e.1))]
end Go.Proofs.YteejianjjpdimaaGreat.L19
namespace Go.Proofs.YteejianjjpdimaaGreat
section
open Go.RowKit L01 L02 L05 L13 L14 L15 L18 L19
theorem float_iff19 (v:UInt64):((v.toNat:Int) / 4503599627370496 % 2048=2047∧(v.toNat:Int)*4096 % 18446744073709551616≠0∧v.toNat≠9221120237041090561)↔¬L20.FloatOk v:=by
 have hl:=v.toNat_lt;unfold L20.FloatOk;omega
theorem float19_any (x:UInt64) (b:Bool) (hb:b=decide (L20.FloatOk x)) (w:World):Calls Tryz.prog 89 #[.int .u64 x.toNat] w fun e w'=>e=.returned (.bool b)∧Below w.heap.size w w':=by
 have B:=Below.refl w.heap.size w;have hxl:=toNat_lt x;have e1:=and_int (a:=(x.toNat:Int) / 4503599627370496) 11 (by omega) (by omega) 2047 (by decide) (by omega)
 rw [show ((2 ^ 11:Nat):Int)=2048 from rfl] at e1;have hwr:IntKind.u64.wrap ((x.toNat:Int)*4096)=(x.toNat:Int)*4096 % 18446744073709551616:=rfl;have HB:=hD hb;clear hb;go_in;go_wp2;all_goals
  go_ret
  refine ⟨ret_bool ?_,B⟩
  rw [HB.out]
  first
   | (rw [eq_comm,decide_eq_true_iff];unfold L20.FloatOk;omega)
   | (rw [Bool.eq_iff_iff,decide_eq_true_iff];simp only [Bool.or_eq_true,beq_iff_eq];unfold L20.FloatOk;omega)
theorem zero19_any (v:Value) (l:List UInt64) (a:Nat) (b:Bool) (hb:b=decide (Zr l a)) (ha:a+8≤l.length) (hl:l.length≤1000000) (w:World) (h:Words w v l):
  Calls Tryz.prog 88 #[v,.int .i64 a] w fun e w'=>e=.returned (.bool b)∧w=w':=by
 obtain ⟨dv,hcut,hW⟩:=h.cut (P:=Tryz.prog) Tryz.underlying22 one_u64 (lo:=(a:Int)) (hi:=(a:Int)+8) (by omega) (by omega) (by omega)
 obtain ⟨m,hm⟩:=exq ((l.drop a).take 8)
 have hW':Words w dv m:=by
  rw [hm]
  rw [show ((a:Int)+8).toNat-(a:Int).toNat=8 by omega,Int.toNat_natCast] at hW;exact hW
 have hlm:m.length=8:=by rw [hm,List.length_take,List.length_drop];omega
 have ln:=Rd.len hW' Tryz.underlying22;rw [hlm] at ln;have hget:∀i x,m[i]?=some x→l.getD (a+i) 0=x:=fun i x hx=>by
  rw [hm] at hx;have hi:i<8:=by have:=(List.getElem?_eq_some_iff.1 hx).1;simp at this;omega
  rw [List.getElem?_take_of_lt hi,List.getElem?_drop] at hx;rw [List.getD_eq_getElem?_getD,hx];rfl
 have hw8:IntKind.i64.wrap ((a:Int)+8)=(a:Int)+8:=IntWalk.i64_in _ (by omega)
 have HB:=hD hb;have HG:=hD hget;have HL:=hD hlm;clear hb hget hlm hW hm h;go_in;go_wp2
 go_loopg [13] 8 (fun g i wr=>∃j:Nat,j≤8∧g=8-j∧i=.int .i64 j∧wr=w∧Hid (∀i,i<j→l.getD (a+i) 0=0))
 case atStart=>exact ⟨0,by omega,rfl,rfl,rfl,hD (fun i hi=>by omega)⟩
 case round=>
  obtain ⟨j,hj,rfl,rfl,rfl,hz⟩:=hrel;by_cases hlt:j<8
  ·obtain ⟨ad,x,ia,m0,hx⟩:=hW'.at_ (P:=Tryz.prog) Tryz.underlying22 one_u64 (k:=j) (by rw [HL.out];exact hlt)
   have hgx:=HG.out j x hx.out;by_cases hx0:x=0
   ·have h0:((x.toNat:Int) != 0)=false:=by rw [hx0];rfl
    have HZ:Hid (∀i,i<j+1→l.getD (a+i) 0=0):=hD (fun i hi=>by
     by_cases e:i=j
     ·subst e;rw [hgx,hx0]
     ·exact hz.out i (by omega))
    clear hgx hx0;go_wp2
    go_roundg (8-(j+1))
    case measure=>omega
    case rel=>exact ⟨j+1,by omega,rfl,by go_num,rfl,HZ⟩
   ·have h0:((x.toNat:Int) != 0)=true:=by rw [bne_iff_ne];intro e;exact hx0 (UInt64.toNat.inj (by simp;omega))
    have hb:b=false:=by rw [HB.out,decide_eq_false_iff_not];exact fun h=>hx0 (by rw [←hgx];exact h j hlt)
    subst hb;clear hgx hx0;go_wp2
    go_ret
    exact ⟨rfl,rfl⟩
  ·obtain rfl:j=8:=by omega
   have hb:b=true:=by rw [HB.out,decide_eq_true_iff];exact hz.out
   subst hb;go_wp2
   go_ret
   exact ⟨rfl,rfl⟩
structure Sg (W:World) (v tv sv bv:Value) (g n:Nat) (l:List UInt64) (T:List (List UInt8)) (S:List Sl) (O:List Hb):Prop where
 w:Words W v l
 t:Typs W tv T
 s:Slots W sv S
 b:Blks W bv O
 m:MapL Tryz.prog 3 4 (.bool false) W g n (fun a=>.bool (decide (IsObj O a)))
theorem Sg.below {W W':World} {v tv sv bv:Value} {g n:Nat} {l:List UInt64} {T:List (List UInt8)} {S:List Sl} {O:List Hb} (h:Sg W v tv sv bv g n l T S O) (hb:Below W.heap.size W W'):Sg W' v tv sv bv g n l T S O:=
 ⟨h.w.below hb,h.t.below hb,Slots.below h.s hb,h.b.below hb,h.m.below hb⟩
theorem zero_bool (W:World):(zeroValue 4).run Tryz.prog W=.ok (.bool false) W:=by kernel_rfl
theorem Sg.look {W:World} {v tv sv bv:Value} {g n:Nat} {l:List UInt64} {T:List (List UInt8)} {S:List Sl} {O:List Hb} (h:Sg W v tv sv bv g n l T S O) {a:Int} (ha:i64Ok a):
  (Instr.lookup 107 (.map (some g)) (.int .i64 a) false).run Tryz.prog W=.ok (.bool (decide (IsObj O a))) W:=h.m.lookB Tryz.underlying3 Tryz.underlying107 Tryz.underlying4 (zero_bool W) ha
def In19 (l:List UInt64) (b:Hb):Prop:=∃a:Nat,b.at_=a∧BkOk b∧(a:Int)+b.size≤l.length
theorem idleB_any (v tv sv bv:Value) (g:Nat) (b:Hb) (c:Bool) (hc:c=decide (Idle b)) (w:World):
  Calls Tryz.prog 48 #[.agg #[v,tv,sv,bv,.map (some g)],.agg #[.int .i64 b.at_,.int .i64 b.size,.int .i64 b.kind,.int .i64 b.ty,.bool b.mark,.int .u64 b.next.toNat]] w fun e w'=>e=.returned (.bool c)∧Below w.heap.size w w':=by
 have B:=Below.refl w.heap.size w;have HC:=hD hc;clear hc;obtain ⟨at_,size,kind,ty,mark,next⟩:=b;dsimp only at *;have hn0:((next.toNat:Int)==0)=decide (next=0):=by
  rw [Bool.eq_iff_iff,beq_iff_eq,decide_eq_true_iff]
  exact ⟨fun e=>UInt64.toNat.inj (by simp;omega),fun e=>by rw [e];rfl⟩
 obtain ⟨q,hq⟩:=exq (decide (next=0))
 rw [←hq] at hn0;have hc:c=(!mark && q):=by rw [HC.out,hq];unfold Idle;cases mark <;> simp
 clear HC hq;cases mark;all_goals
  go_in;go_wp2
  go_ret
  refine ⟨by rw [hc];rfl,?_⟩
  exact bdn
theorem typedB_any (v tv sv bv:Value) (g:Nat) (T:List (List UInt8)) (b:Hb) (c:Bool) (hc:c=decide (Typed T b)) (h0:0≤b.ty) (hT:∀t∈T,kErr t=0) (w:World) (h:Typs w tv T):
  Calls Tryz.prog 49 #[.agg #[v,tv,sv,bv,.map (some g)],.agg #[.int .i64 b.at_,.int .i64 b.size,.int .i64 b.kind,.int .i64 b.ty,.bool b.mark,.int .u64 b.next.toNat]] w fun e w'=>e=.returned (.bool c)∧Below w.heap.size w w':=by
 have B:=Below.refl w.heap.size w;have lt:=h.len;obtain ⟨NT,hNT⟩:=exq T.length;rw [←hNT] at lt;by_cases hlt:b.ty<T.length
 ·obtain ⟨q,hq⟩:=Int.eq_ofNat_of_zero_le h0;obtain ⟨at_,size,kind,ty,mark,next⟩:=b;dsimp only at *;subst hq;have hqT:q<T.length:=by omega
  obtain ⟨ad,x,t,it,m0,ht,hx⟩:=h.at_ (k:=q) hqT;have hk:kErr t=0:=hT t (List.mem_of_getElem? ht.out)
  obtain ⟨n,hn⟩:=exq (kSize t)
  have KT:=hD (KSize_any x t n 0 hn hk.symm)
  have hck:c=decide (n=size):=by
   rw [hc,Bool.eq_iff_iff,decide_eq_true_iff,decide_eq_true_iff]
   unfold Typed kindsB;rw [Int.toNat_natCast,List.getD_eq_getElem?_getD,ht.out,hn,kSize,if_pos hk]
   simp only [Option.getD_some]
   exact ⟨fun h=>h.2.symm,fun h=>⟨hlt,h.symm⟩⟩
  have n1:¬(NT:Int)≤(q:Int):=by omega
  have HX:=hx;have HC:=hD hck;clear hc hT hk hn ht hx hck hlt hqT h0 hNT;go_in;go_upto_region 1 with (fail)
  refine wpb11 (109) (#[v,tv,sv,bv,.map (some g)]) (64) (#[.int .i64 at_,.int .i64 size,.int .i64 kind,.int .i64 q,.bool mark,.int .u64 next.toNat]) ?_;rintro wa1 ⟨g1,g2,b⟩
  replace m0:=cell_later b m0;replace B:=B.trans (b.mono B.size);clear b;replace c_g1:=g1.five;replace c_g2:=g2.five;go_wp2_with fail;refine (KT.out _ (Byts.below HX.out B)).mono ?_;rintro e w' ⟨rfl,rfl⟩
  go_wp2
  go_ret
  refine ⟨ret_bool ?_,B⟩
  rw [HC.out,Bool.eq_iff_iff,beq_iff_eq,decide_eq_true_iff]
 ·have hc0:c=false:=by rw [hc,decide_eq_false_iff_not];exact fun h=>hlt h.1
  obtain ⟨at_,size,kind,ty,mark,next⟩:=b;dsimp only at *;have n1:(NT:Int)≤ty:=by omega
  subst hc0;clear hc hT hlt hNT h;go_in;go_upto_region 1 with (fail)
  refine wpb11 (109) (#[v,tv,sv,bv,.map (some g)]) (64) (#[.int .i64 at_,.int .i64 size,.int .i64 kind,.int .i64 ty,.bool mark,.int .u64 next.toNat]) ?_;rintro wa1 ⟨g1,g2,b⟩
  replace B:=B.trans (b.mono B.size);clear b;replace c_g1:=g1.five;replace c_g2:=g2.five;go_wp2
  go_ret
  exact ⟨rfl,B⟩
end
section
open Go.RowKit L01 L02 L05 L13 L14 L15 L18 L19
theorem in_kinds {l:List UInt64} {T:List (List UInt8)} {b:Hb} (hi:In19 l b) (ht:Typed T b):∃(a q:Nat) (t:List UInt8),b.at_=a∧b.ty=q∧T[q]?=some t∧kindsB T b=t∧128≤a+128∧a+2+t.length≤l.length∧(t.length % 2=1→a+2+t.length<l.length):=by
 obtain ⟨a,ha,hok,hle⟩:=hi;have hb:=hok.bounds;obtain ⟨q,hq⟩:=Int.eq_ofNat_of_zero_le hb.2.2.2.2.1;have hlt:q<T.length:=by have:=ht.1;omega
 have hT:T[q]?=some T[q]:=List.getElem?_eq_getElem hlt;have hk:kindsB T b=T[q]:=by unfold kindsB;rw [hq,Int.toNat_natCast,List.getD_eq_getElem?_getD,hT];rfl
 have hs:=ht.2;rw [hk] at hs;exact ⟨a,q,T[q],ha,hq,hT,hk,by omega,by omega,fun h=>by omega⟩
theorem paddedB_any (v tv sv bv:Value) (g:Nat) (l:List UInt64) (T:List (List UInt8)) (b:Hb) (c:Bool) (hc:c=decide (Padded l T b)) (hi:In19 l b) (hty:Typed T b) (hl:l.length≤1000000) (w:World) (hw:Words w v l) (h:Typs w tv T):
  Calls Tryz.prog 50 #[.agg #[v,tv,sv,bv,.map (some g)],.agg #[.int .i64 b.at_,.int .i64 b.size,.int .i64 b.kind,.int .i64 b.ty,.bool b.mark,.int .u64 b.next.toNat]] w fun e w'=>e=.returned (.bool c)∧Below w.heap.size w w':=by
 have B:=Below.refl w.heap.size w;obtain ⟨a,q,t,ha,hq,hT,hk,_,hle,hodd⟩:=in_kinds hi hty;obtain ⟨ad,x,t',it,m0,ht',hx⟩:=h.at_ (k:=q) (List.getElem?_eq_some_iff.1 hT).1;obtain rfl:t'=t:=by have:=ht'.out;rw [hT] at this;injection this with this;exact this.symm
 obtain ⟨n,hn⟩:=exq t'.length;have lx:=Rd.len hx.out Tryz.underlying66;rw [←hn] at lx hle hodd;have hcp:c=decide (n % 2=0∨fw l b n=0):=by rw [hc,Bool.eq_iff_iff,decide_eq_true_iff,decide_eq_true_iff];unfold Padded;rw [hk,←hn]
 obtain ⟨at_,size,kind,ty,mark,next⟩:=b;dsimp only at ha hq;subst ha;subst hq;have hfw:fw l ⟨(a:Int),size,kind,(q:Int),mark,next⟩ n=l.getD (a+2+n) 0:=by unfold fw;rw [Int.toNat_natCast]
 rw [hfw] at hcp;have HC:=hD hcp;have hw1:IntKind.i64.wrap ((a:Int)+2)=(a:Int)+2:=IntWalk.i64_in _ (by omega)
 have hw2:IntKind.i64.wrap ((a:Int)+2+(n:Int))=(a:Int)+2+(n:Int):=IntWalk.i64_in _ (by omega)
 have HH:=hD hn;by_cases hev:n % 2=0
 ·have e1:((n:Int).tmod 2==0)=true:=by rw [beq_iff_eq,Int.tmod_eq_emod_of_nonneg (by omega)];omega
  have e2:((n:Int) % 2==0)=true:=by rw [beq_iff_eq];omega
  have e3:(n:Int).tmod 2=0:=by rw [Int.tmod_eq_emod_of_nonneg (by omega)];omega
  have hc1:c=true:=by rw [hcp,decide_eq_true_iff];exact .inl hev
  subst hc1;clear hc hi hty hT hk hle hodd ht' hx hcp hfw hn hw h;go_in;go_upto_region 1 with (fail)
  refine wpb11 (109) (#[v,tv,sv,bv,.map (some g)]) (64) (#[.int .i64 a,.int .i64 size,.int .i64 kind,.int .i64 q,.bool mark,.int .u64 next.toNat]) ?_;rintro wa1 ⟨g1,g2,b⟩
  replace m0:=cell_later b m0;replace B:=B.trans (b.mono B.size);clear b;replace c_g1:=g1.five;replace c_g2:=g2.five;go_wp2
  go_ret
  exact ⟨rfl,B⟩
 ·have e1:((n:Int).tmod 2==0)=false:=by rw [beq_eq_false_iff_ne,Int.tmod_eq_emod_of_nonneg (by omega)];omega
  have e2:((n:Int) % 2==0)=false:=by rw [beq_eq_false_iff_ne];omega
  have e3:(n:Int).tmod 2=1:=by rw [Int.tmod_eq_emod_of_nonneg (by omega)];omega
  obtain ⟨ad2,y,iy,m1,hy⟩:=hw.at_ (P:=Tryz.prog) Tryz.underlying22 one_u64 (k:=a+2+n) (hodd (by omega))
  have iy2:∀W,(Instr.indexAt 22 v (.int .i64 ((a:Int)+2+(n:Int)))).run Tryz.prog W=.ok (.pointer (some ad2)) W:=iy;have hgy:l.getD (a+2+n) 0=y:=by rw [List.getD_eq_getElem?_getD,hy.out];rfl
  have hc1:c=decide (y=0):=by rw [hcp,hgy];simp [hev]
  have hy0:((y.toNat:Int)==0)=c:=by
   rw [hc1,Bool.eq_iff_iff,beq_iff_eq,decide_eq_true_iff]
   exact ⟨fun e=>UInt64.toNat.inj (by simp;omega),fun e=>by rw [e];rfl⟩
  clear hc hi hty hT hk hle hodd ht' hx hcp hfw hn hw h hgy hc1 hy HC;go_in;go_upto_region 1 with (fail)
  refine wpb11 (109) (#[v,tv,sv,bv,.map (some g)]) (64) (#[.int .i64 a,.int .i64 size,.int .i64 kind,.int .i64 q,.bool mark,.int .u64 next.toNat]) ?_;rintro wa1 ⟨g1,g2,b⟩
  replace m0:=cell_later b m0;replace m1:=cell_later b m1;replace B:=B.trans (b.mono B.size);clear b;replace c_g1:=g1.five;replace c_g2:=g2.five;go_wp2
  go_ret
  exact ⟨rfl,B⟩
theorem floatsB_any (v tv sv bv:Value) (g:Nat) (l:List UInt64) (T:List (List UInt8)) (b:Hb) (c:Bool) (hc:c=decide (FloatsB l T b)) (hi:In19 l b) (hty:Typed T b) (hl:l.length≤1000000) (w:World) (hw:Words w v l) (h:Typs w tv T):
  Calls Tryz.prog 51 #[.agg #[v,tv,sv,bv,.map (some g)],.agg #[.int .i64 b.at_,.int .i64 b.size,.int .i64 b.kind,.int .i64 b.ty,.bool b.mark,.int .u64 b.next.toNat]] w fun e w'=>e=.returned (.bool c)∧Below w.heap.size w w':=by
 have B:=Below.refl w.heap.size w;obtain ⟨a,q,t,ha,hq,hT,hk,_,hle,_⟩:=in_kinds hi hty;obtain ⟨ad,x,t',it,m0,ht',hx⟩:=h.at_ (k:=q) (List.getElem?_eq_some_iff.1 hT).1;obtain rfl:t'=t:=by have:=ht'.out;rw [hT] at this;injection this with this;exact this.symm
 obtain ⟨n,hn⟩:=exq t'.length;have lx:=Rd.len hx.out Tryz.underlying66;rw [←hn] at lx hle;have hcp:c=decide (∀i,i<n→(t'.getD i 0).toNat=2→L20.FloatOk (fw l b i)):=by rw [hc,Bool.eq_iff_iff,decide_eq_true_iff,decide_eq_true_iff];unfold FloatsB;rw [hk,←hn]
 obtain ⟨at_,size,kind,ty,mark,next⟩:=b;dsimp only at ha hq;subst ha;subst hq;have hfw:∀i,fw l ⟨(a:Int),size,kind,(q:Int),mark,next⟩ i=l.getD (a+2+i) 0:=fun i=>by unfold fw;rw [Int.toNat_natCast]
 have HC:=hD (And.intro hcp hfw)
 have hw1:IntKind.i64.wrap ((a:Int)+2)=(a:Int)+2:=IntWalk.i64_in _ (by omega)
 have HH:=hD hn;have HX:=hx;have HW:=hD hw;have HN:=hD (And.intro hle hl)
 have hnb:n≤1000000:=by omega
 clear hc hi hty hT hk hle ht' hx hcp hfw hn hw h hl;go_in;go_upto_region 1 with (fail)
 refine wpb11 (109) (#[v,tv,sv,bv,.map (some g)]) (64) (#[.int .i64 a,.int .i64 size,.int .i64 kind,.int .i64 q,.bool mark,.int .u64 next.toNat]) ?_;rintro wa1 ⟨g1,g2,b⟩
 replace m0:=cell_later b m0;replace B:=B.trans (b.mono B.size);clear b;replace c_g1:=g1.five;replace c_g2:=g2.five;go_wp2
 go_loopg [14] n (fun gg i wr=>∃j:Nat,j≤n∧gg=n-j∧i=.int .i64 j∧Hid (Bx wr w.heap.size 109 #[v,tv,sv,bv,.map (some g)]∧Bx wr (w.heap.size+1) 64 #[.int .i64 a,.int .i64 size,.int .i64 kind,.int .i64 q,.bool mark,.int .u64 next.toNat]∧Below w.heap.size w wr)∧Hid (∀i,i<j→(t'.getD i 0).toNat=2→L20.FloatOk (l.getD (a+2+i) 0)))
 case atStart=>exact ⟨0,by omega,rfl,rfl,hD ⟨g1,g2,B⟩,hD (fun i hi=>by omega)⟩
 case round=>
  obtain ⟨j,hj,rfl,rfl,hh,hz⟩:=hrel;clear g1 g2 B m0 c_g1 c_g2;obtain ⟨g1,g2,B⟩:=hh.out;have c_g1:=g1.cell;have c_g2:=g2.cell;by_cases hlt:j<n
  ·obtain ⟨ak,kd,ik,mk,hkd⟩:=(Byts.below HX.out B).at_ (P:=Tryz.prog) Tryz.underlying66 one_u8 (k:=j) (by rw [←HH.out];exact hlt)
   have hgk:t'.getD j 0=kd:=by rw [List.getD_eq_getElem?_getD,hkd.out];rfl
   by_cases hk2:kd.toNat=2
   ·obtain ⟨ad2,y,iy,m2,hy⟩:=(HW.out.below B).at_ (P:=Tryz.prog) Tryz.underlying22 one_u64 (k:=a+2+j) (by have:=HN.out.1;omega)
    have iy2:∀W,(Instr.indexAt 22 v (.int .i64 ((a:Int)+2+(j:Int)))).run Tryz.prog W=.ok (.pointer (some ad2)) W:=iy;have hgy:l.getD (a+2+j) 0=y:=by rw [List.getD_eq_getElem?_getD,hy.out];rfl
    have hw2:IntKind.i64.wrap ((a:Int)+2+(j:Int))=(a:Int)+2+(j:Int):=IntWalk.i64_in _ (by have:=HN.out;omega)
    obtain ⟨fb,hfb⟩:=exq (decide (L20.FloatOk y))
    have FT:=hD (float19_any y fb hfb)
    rw [hk2] at mk;cases fb
    ·have hno:¬L20.FloatOk y:=of_decide_eq_false hfb.symm;have hc0:c=false:=by
      rw [HC.out.1,decide_eq_false_iff_not]
      intro hall
      have:=hall j hlt (by rw [hgk];exact hk2)
      rw [HC.out.2,hgy] at this;exact hno this
     subst hc0;clear hfb hno hgy hy hgk hk2 hkd iy;go_wp2_with fail;refine (FT.out _).mono ?_;rintro e wa2 ⟨rfl,b⟩
     replace g1:=g1.below b;replace c_g1:=g1.five;replace g2:=g2.below b;replace c_g2:=g2.five;replace m2:=cell_later b m2;replace B:=B.trans (b.mono B.size);clear b;go_wp2
     go_ret
     exact ⟨rfl,B⟩
    ·have hyes:L20.FloatOk y:=of_decide_eq_true hfb.symm;have HZ:Hid (∀i,i<j+1→(t'.getD i 0).toNat=2→L20.FloatOk (l.getD (a+2+i) 0)):=hD (fun i hi h2=>by
      by_cases e:i=j
      ·subst e;rw [hgy];exact hyes
      ·exact hz.out i (by omega) h2)
     clear hfb hyes hgy hy hgk hk2 hkd iy;go_wp2_with fail;refine (FT.out _).mono ?_;rintro e wa3 ⟨rfl,b⟩
     replace g1:=g1.below b;replace c_g1:=g1.five;replace g2:=g2.below b;replace c_g2:=g2.five;replace m2:=cell_later b m2;replace B:=B.trans (b.mono B.size);clear b;have HG:=hD (And.intro g1 (And.intro g2 B))
     go_wp2
     go_roundg (n-(j+1))
     case measure=>omega
     case rel=>exact ⟨j+1,by omega,rfl,by go_num,HG,HZ⟩
   ·have hk3:((kd.toNat:Int)==2)=false:=by rw [beq_eq_false_iff_ne];omega
    have HZ:Hid (∀i,i<j+1→(t'.getD i 0).toNat=2→L20.FloatOk (l.getD (a+2+i) 0)):=hD (fun i hi h2=>by
     by_cases e:i=j
     ·subst e;rw [hgk] at h2;exact absurd h2 hk2
     ·exact hz.out i (by omega) h2)
    have HG:=hD (And.intro g1 (And.intro g2 B))
    clear hgk hk2 hkd;go_wp2
    go_roundg (n-(j+1))
    case measure=>omega
    case rel=>exact ⟨j+1,by omega,rfl,by go_num,HG,HZ⟩
  ·obtain rfl:j=n:=by omega
   have hc1:c=true:=by rw [HC.out.1,decide_eq_true_iff];intro i hi h2;rw [HC.out.2];exact hz.out i hi h2
   subst hc1;go_wp2
   go_ret
   exact ⟨rfl,B⟩
theorem refsB_any (v tv sv bv:Value) (g gn:Nat) (l:List UInt64) (T:List (List UInt8)) (S:List Sl) (O:List Hb) (b:Hb) (c:Bool) (hc:c=decide (RefsB l T O b)) (hi:In19 l b) (hty:Typed T b) (hl:l.length≤1000000) (hO:∀b∈O,b.at_<l.length) (w:World) (h:Sg w v tv sv bv g gn l T S O):
  Calls Tryz.prog 52 #[.agg #[v,tv,sv,bv,.map (some g)],.agg #[.int .i64 b.at_,.int .i64 b.size,.int .i64 b.kind,.int .i64 b.ty,.bool b.mark,.int .u64 b.next.toNat]] w fun e w'=>e=.returned (.bool c)∧Below w.heap.size w w':=by
 have B:=Below.refl w.heap.size w;obtain ⟨a,q,t,ha,hq,hT,hk,_,hle,_⟩:=in_kinds hi hty;obtain ⟨ad,x,t',it,m0,ht',hx⟩:=h.t.at_ (k:=q) (List.getElem?_eq_some_iff.1 hT).1;obtain rfl:t'=t:=by have:=ht'.out;rw [hT] at this;injection this with this;exact this.symm
 obtain ⟨n,hn⟩:=exq t'.length;have lx:=Rd.len hx.out Tryz.underlying66;rw [←hn] at lx hle;obtain ⟨N,hN⟩:=exq l.length;have lw:=Rd.len h.w Tryz.underlying22;rw [←hN] at lw hle hl;have hcp:c=decide (∀i,i<n→(t'.getD i 0).toNat=3→(fw l b i=0∨IsObj O (fw l b i).toNat)):=by rw [hc,Bool.eq_iff_iff,decide_eq_true_iff,decide_eq_true_iff];unfold RefsB;rw [hk,←hn]
 obtain ⟨at_,size,kind,ty,mark,next⟩:=b;dsimp only at ha hq;subst ha;subst hq;have hfw:∀i,fw l ⟨(a:Int),size,kind,(q:Int),mark,next⟩ i=l.getD (a+2+i) 0:=fun i=>by unfold fw;rw [Int.toNat_natCast]
 have HC:=hD (And.intro hcp hfw)
 have hw1:IntKind.i64.wrap ((a:Int)+2)=(a:Int)+2:=IntWalk.i64_in _ (by omega)
 have hw4:IntKind.u64.wrap (N:Int)=(N:Int):=by rw [wrap_u64];omega
 have HH:=hD hn;have HX:=hx;have HW:=hD h;have HNN:=hD hN;have HO:=hD hO;have HN:=hD (And.intro hle hl)
 have hnb:n≤1000000:=by omega
 clear hc hi hty hT hk hle ht' hx hcp hfw hn h hl hN hO;go_in;go_upto_region 1 with (fail)
 refine wpb11 (109) (#[v,tv,sv,bv,.map (some g)]) (64) (#[.int .i64 a,.int .i64 size,.int .i64 kind,.int .i64 q,.bool mark,.int .u64 next.toNat]) ?_;rintro wa1 ⟨g1,g2,b⟩
 replace m0:=cell_later b m0;replace B:=B.trans (b.mono B.size);clear b;replace c_g1:=g1.five;replace c_g2:=g2.five;go_wp2
 go_loopg [15] n (fun gg i wr=>∃j:Nat,j≤n∧gg=n-j∧i=.int .i64 j∧wr=wa1∧Hid (∀i,i<j→(t'.getD i 0).toNat=3→(l.getD (a+2+i) 0=0∨IsObj O (l.getD (a+2+i) 0).toNat)))
 case atStart=>exact ⟨0,by omega,rfl,rfl,rfl,hD (fun i hi=>by omega)⟩
 case round=>
  obtain ⟨j,hj,rfl,rfl,rfl,hz⟩:=hrel;by_cases hlt:j<n
  ·obtain ⟨ak,kd,ik,mk,hkd⟩:=(Byts.below HX.out B).at_ (P:=Tryz.prog) Tryz.underlying66 one_u8 (k:=j) (by rw [←HH.out];exact hlt)
   have hgk:t'.getD j 0=kd:=by rw [List.getD_eq_getElem?_getD,hkd.out];rfl
   obtain ⟨ad2,y,iy,m2,hy⟩:=(HW.out.below B).w.at_ (P:=Tryz.prog) Tryz.underlying22 one_u64 (k:=a+2+j) (by have:=HN.out.1;rw [←HNN.out];omega)
   have iy2:∀W,(Instr.indexAt 22 v (.int .i64 ((a:Int)+2+(j:Int)))).run Tryz.prog W=.ok (.pointer (some ad2)) W:=iy;have hgy:l.getD (a+2+j) 0=y:=by rw [List.getD_eq_getElem?_getD,hy.out];rfl
   have hw2:IntKind.i64.wrap ((a:Int)+2+(j:Int))=(a:Int)+2+(j:Int):=IntWalk.i64_in _ (by have:=HN.out;omega)
   have hstep:((t'.getD j 0).toNat=3→(y=0∨IsObj O y.toNat))→Hid (∀i,i<j+1→(t'.getD i 0).toNat=3→(l.getD (a+2+i) 0=0∨IsObj O (l.getD (a+2+i) 0).toNat)):=fun hh=>hD (fun i hi h2=>by
    by_cases e:i=j
    ·subst e;rw [hgy];exact hh h2
    ·exact hz.out i (by omega) h2)
   have hfall:(t'.getD j 0).toNat=3→¬(y=0∨IsObj O y.toNat)→c=false:=fun h3 hno=>by
    rw [HC.out.1,decide_eq_false_iff_not]
    intro hall
    have:=hall j hlt h3;rw [HC.out.2,hgy] at this;exact hno this
   by_cases hk3:kd.toNat=3
   ·rw [hk3] at mk;by_cases hy0:y=0
    ·have h0:((y.toNat:Int) != 0)=false:=by rw [hy0];rfl
     have HZ:=hstep (fun _=>.inl hy0)
     clear hstep hfall hgy hgk hy0 hy hkd hk3 iy;go_wp2
     go_roundg (n-(j+1))
     case measure=>omega
     case rel=>exact ⟨j+1,by omega,rfl,by go_num,rfl,HZ⟩
    ·have h0:((y.toNat:Int) != 0)=true:=by rw [bne_iff_ne];intro e;exact hy0 (UInt64.toNat.inj (by simp;omega))
     by_cases hyN:y.toNat<N
     ·have h1:¬((N:Int)≤(y.toNat:Int)):=by omega
      have h2:decide ((N:Int)≤(y.toNat:Int))=false:=decide_eq_false h1;have h3:decide (N≤y.toNat)=false:=decide_eq_false (by omega)
      have hw3:IntKind.i64.wrap (y.toNat:Int)=(y.toNat:Int):=IntWalk.i64_in _ (by have:=HN.out;omega)
      have hlk:=(HW.out.below B).look (a:=(y.toNat:Int)) ⟨by omega,by have:=HN.out;omega⟩
      obtain ⟨ob,hob⟩:=exq (decide (IsObj O y.toNat))
      rw [←hob] at hlk;cases ob
      ·have hc0:=hfall (by rw [hgk];exact hk3) (fun h=>h.elim hy0 (of_decide_eq_false hob.symm))
       subst hc0;clear hstep hfall hgy hgk hy0 hy hkd hk3 hob iy;go_wp2
       go_ret
       exact ⟨rfl,B⟩
      ·have HZ:=hstep (fun _=>.inr (of_decide_eq_true hob.symm))
       clear hstep hfall hgy hgk hy0 hy hkd hk3 hob iy;go_wp2
       go_roundg (n-(j+1))
       case measure=>omega
       case rel=>exact ⟨j+1,by omega,rfl,by go_num,rfl,HZ⟩
     ·have h1:(N:Int)≤(y.toNat:Int):=by omega
      have h2:decide ((N:Int)≤(y.toNat:Int))=true:=decide_eq_true h1;have h3:decide (N≤y.toNat)=true:=decide_eq_true (by omega)
      have hc0:=hfall (by rw [hgk];exact hk3) (fun h=>h.elim hy0 (fun ⟨b',hb',e⟩=>by have:=HO.out b' hb';rw [←HNN.out] at this;omega))
      subst hc0;clear hstep hfall hgy hgk hy0 hy hkd hk3 iy;go_wp2
      go_ret
      exact ⟨rfl,B⟩
   ·have hkn:((kd.toNat:Int)==3)=false:=by rw [beq_eq_false_iff_ne];omega
    have HZ:=hstep (fun h3=>absurd (by rw [←hgk];exact h3) hk3)
    clear hstep hfall hgy hgk hy hkd hk3 iy;go_wp2
    go_roundg (n-(j+1))
    case measure=>omega
    case rel=>exact ⟨j+1,by omega,rfl,by go_num,rfl,HZ⟩
  ·obtain rfl:j=n:=by omega
   have hc1:c=true:=by rw [HC.out.1,decide_eq_true_iff];intro i hi h2;rw [HC.out.2];exact hz.out i hi h2
   subst hc1;go_wp2
   go_ret
   exact ⟨rfl,B⟩
end
section
open Go.RowKit L02 L05 L06
def supV (W T:Int):Value:=.agg #[.int .i64 W,.int .i64 T]
def arr8 (l:List UInt64):Value:=.agg (l.map u64).toArray
theorem words_any (W T:Int) (w:World) (h:SupOk W T):Calls Tryz.prog 90 #[supV W T] w fun e w'=>e=.returned (arr8 (wordsOf W T))∧Below w.heap.size w w':=by
 have h1:=h.1.1;have h2:=h.1.2.1;have h3:=h.2.1;have h4:=h.2.2;have hu1:=u_nat (n:=W) (by omega) (by omega)
 have hu2:=u_nat (n:=T) (by omega) (by omega)
 have HU1:=hD hu1;have HU2:=hD hu2;clear hu1 hu2 h;unfold supV;go_in;go_wp2_with fail;have hW:(((w.alloc (.cells #[.int .i64 W,.int .i64 T] 51)).alloc (.cells #[.int .u64 0,.int .u64 0,.int .u64 0,.int .u64 0,.int .u64 0,.int .u64 0,.int .u64 0,.int .u64 0] 164)).alloc
  (.cells #[.int .u64 32777959566500194,.int .u64 1,.int .u64 W,.int .u64 T,.int .u64 0,.int .u64 0,.int .u64 0,.int .u64 0] 164)).heap.size=w.heap.size+1+1+1:=by simp
 have g2:=blk_new ((w.alloc (.cells #[.int .i64 W,.int .i64 T] 51)).alloc (.cells #[.int .u64 0,.int .u64 0,.int .u64 0,.int .u64 0,.int .u64 0,.int .u64 0,.int .u64 0,.int .u64 0] 164))
  (.cells #[.int .u64 32777959566500194,.int .u64 1,.int .u64 W,.int .u64 T,.int .u64 0,.int .u64 0,.int .u64 0,.int .u64 0] 164)
 have g1:=blk_old (blk_new (w.alloc (.cells #[.int .i64 W,.int .i64 T] 51)) (.cells #[.int .u64 0,.int .u64 0,.int .u64 0,.int .u64 0,.int .u64 0,.int .u64 0,.int .u64 0,.int .u64 0] 164))
  (.cells #[.int .u64 32777959566500194,.int .u64 1,.int .u64 W,.int .u64 T,.int .u64 0,.int .u64 0,.int .u64 0,.int .u64 0] 164)
 rw [show ((w.alloc (.cells #[.int .i64 W,.int .i64 T] 51)).alloc (.cells #[.int .u64 0,.int .u64 0,.int .u64 0,.int .u64 0,.int .u64 0,.int .u64 0,.int .u64 0,.int .u64 0] 164)).heap.size=w.heap.size+1+1 by simp] at g2;rw [show (w.alloc (.cells #[.int .i64 W,.int .i64 T] 51)).heap.size=w.heap.size+1 by simp] at g1;have B:Below w.heap.size w _:=(((Below.refl _ w).alloc (Nat.le_refl _) (.cells #[.int .i64 W,.int .i64 T] 51)).alloc (by simp) (.cells #[.int .u64 0,.int .u64 0,.int .u64 0,.int .u64 0,.int .u64 0,.int .u64 0,.int .u64 0,.int .u64 0] 164)).alloc (by simp;omega)
  (.cells #[.int .u64 32777959566500194,.int .u64 1,.int .u64 W,.int .u64 T,.int .u64 0,.int .u64 0,.int .u64 0,.int .u64 0] 164)
 have r:=part_words (n:=7) (c:=8) (body W T) g2 rfl rfl (by simp [body,u64,HU1.out,HU2.out,magic]) (by simp)
 refine (Of_any _ _ _ r (by simp [body])).mono ?_;rintro e w2 ⟨rfl,b⟩
 have g1':=blk_below g1 b;have g2':=blk_below g2 b;replace B:=B.trans (b.mono B.size)
 have hz:=b.size;rw [hW] at hz;clear r b g1 g2 hW;obtain ⟨S,hS⟩:=exq (sum (body W T))
 rw [←hS]
 have HS:=hD hS;clear hS;have c1:=blk_cell g1';have c2:=blk_cell g2';have f1:=blk_free g1';have f2:=blk_free g2';have HB:=hD B;clear B g1' g2';go_wp2;refine bodyPost_ret (v:=arr8 (wordsOf W T)) ?_ rfl ⟨rfl,?_⟩
 ·simp [results,Tryz.results90,go_sem,c1,f1]
  simp [arr8,wordsOf,body,u64,HU1.out,HU2.out,magic,HS.out]
 ·iterate 9 refine Below.setCell ?_ (by simp <;> omega) _
  exact HB.out
end
section
open Go.RowKit L02 L05 L06
theorem Read6_bad (v:Value) (l:List UInt64) (w:World) (h:Words w v l) (hl:l.length≠8):
  Calls Tryz.prog 55 #[v] w fun e w'=>e=.returned (.tuple #[supV 0 0,.int .i64 2])∧Below w.heap.size w w':=by
 have l1:=Rd.len h Tryz.underlying22;have hne:((l.length:Int) != 8)=true:=by simp;omega
 clear h hl;go_in;go_wp2
 go_step3
 go_wp2;try rw [Exit.noGoto_ret]
 refine bodyPost_ret (v:=.tuple #[supV 0 0,.int .i64 2]) ?_ rfl ⟨rfl,?_⟩
 ·simp [results,Tryz.results55,go_sem,supV]
 ·exact (Below.refl _ _).alloc (Nat.le_refl _) _
theorem Read6_eight (v:Value) (l:List UInt64) (w:World) (h:Words w v l) (hl:l.length=8):
  Calls Tryz.prog 55 #[v] w fun e w'=>e=.returned (.tuple #[supV (rdW l) (rdT l),.int .i64 (if ReadOk l then 0 else 50)])∧Below w.heap.size w w':=by
 match l,hl with
 | [x0,x1,x2,x3,x4,x5,x6,x7],_=>
 obtain ⟨b,o,c,rfl,hb,hc,hcell⟩:=Rd.form h (by simp)
 have c0:=hcell 0 (.int .u64 x0.toNat) rfl;have c1:=hcell 1 (.int .u64 x1.toNat) rfl;have c2:=hcell 2 (.int .u64 x2.toNat) rfl;have c3:=hcell 3 (.int .u64 x3.toNat) rfl;have c4:=hcell 4 (.int .u64 x4.toNat) rfl;have c5:=hcell 5 (.int .u64 x5.toNat) rfl;have c6:=hcell 6 (.int .u64 x6.toNat) rfl;have c7:=hcell 7 (.int .u64 x7.toNat) rfl;simp only [Nat.add_zero] at c0;clear h hcell;go_in;go_wp2;have ha:∀W,(Instr.arrayAt 164 (.slice (some ⟨b,o,none⟩) 8 c)).run Tryz.prog W=.ok (.pointer (some ⟨b,o,none⟩)) W:=fun W=>by simp [Instr.arrayAt,run_underlying Tryz.underlying164]
 go_step3
 go_wp2
 go_step3
 go_wp2;obtain ⟨A,hA⟩:=exq (x2.toNat:Int)
 obtain ⟨T,hT⟩:=exq (x3.toNat:Int)
 have hA0:0≤A:=by omega
 have hT0:0≤T:=by omega
 rw [←hA,←hT]
 have HA:=hD hA;have HT:=hD hT;clear hA hT c0 c1 c2 c3 c4 c5 c6 c7 ha
 go_loop [6] (fun n=>∃k:Int,256≤k∧k≤2056∧k % 8=0∧n=.int .i64 k∧¬(256≤A∧A<k∧A % 8=0∧T≤8)) (fun n=>(2056-intOf n).toNat)
 case atStart=>exact ⟨256,by omega,by omega,by omega,rfl,by omega⟩
 case round=>
  obtain ⟨n,n1,n2,n3,rfl,n4⟩:=hrel;have N3:=hD n3;have N4:=hD n4;clear n3 n4;by_cases hlt:n≤2048
  ·by_cases hnA:n=A
   ·subst hnA;go_wp2
    go_loop [19] (fun t=>∃j:Int,0≤j∧j≤9∧t=.int .i64 j∧¬T<j) (fun t=>(9-intOf t).toNat)
    case atStart=>exact ⟨0,by omega,by omega,rfl,by omega⟩
    case round=>
     obtain ⟨t,t1,t2,rfl,t3⟩:=hrel;by_cases htl:t<9
     ·by_cases htT:t=T
      ·subst htT;go_wp2;refine wp_gen (fun W=>W.heap[w.heap.size]?=some (.cells #[.int .i64 0,.int .i64 0] 51 (0,0))∧W.heap[w.heap.size+1]?=some (.cells #[.int .i64 n,.int .i64 t] 51 (0,0))∧
        W.heap[w.heap.size+1+1]?=some (.cells #[.int .u64 x0.toNat,.int .u64 x1.toNat,.int .u64 n,.int .u64 t,.int .u64 x4.toNat,.int .u64 x5.toNat,.int .u64 x6.toNat,.int .u64 x7.toNat] 164 (0,0))∧Below w.heap.size w W∧w.heap.size+3≤W.heap.size)
        ⟨by simp only [alloc_heap,Array.getElem?_push,Array.size_push];simp <;> omega,by simp only [alloc_heap,Array.getElem?_push,Array.size_push];simp <;> omega,by simp only [alloc_heap,Array.getElem?_push,Array.size_push];simp <;> omega,(((Below.refl _ w).alloc (Nat.le_refl _) _).alloc (by simp) _).alloc (by simp;omega) _,by simp⟩ ?_
       rintro w1 ⟨g0,g1,g2,B,hz⟩
       have c0:=blk_cell g0;have c1:=blk_cell g1;have c2:=blk_cell g2;have f0:=blk_free g0;have HB:=hD B;clear B;have s0:w1.cell? ⟨w.heap.size+1,0,none⟩=some (.int .i64 n):=c1 0;have s1:w1.cell? ⟨w.heap.size+1,1,none⟩=some (.int .i64 t):=c1 1;have a0:w1.cell? ⟨w.heap.size+1+1,0,none⟩=some (.int .u64 x0.toNat):=c2 0;have a1:w1.cell? ⟨w.heap.size+1+1,1,none⟩=some (.int .u64 x1.toNat):=c2 1;have a2:w1.cell? ⟨w.heap.size+1+1,2,none⟩=some (.int .u64 n):=c2 2;have a3:w1.cell? ⟨w.heap.size+1+1,3,none⟩=some (.int .u64 t):=c2 3;have a4:w1.cell? ⟨w.heap.size+1+1,4,none⟩=some (.int .u64 x4.toNat):=c2 4;have a5:w1.cell? ⟨w.heap.size+1+1,5,none⟩=some (.int .u64 x5.toNat):=c2 5;have a6:w1.cell? ⟨w.heap.size+1+1,6,none⟩=some (.int .u64 x6.toNat):=c2 6;have a7:w1.cell? ⟨w.heap.size+1+1,7,none⟩=some (.int .u64 x7.toNat):=c2 7;have G0:=hD g0;have G1:=hD g1;have G2:=hD g2;have HT0:=hD t3;have hok:SupOk n t:=⟨⟨n1,hlt,N3.out⟩,t1,by omega⟩
       have HOK:=hD hok;have hcmp:=fun W=>run_neq_words (P:=Tryz.prog) (n:=8) Tryz.underlying164 (by kernel_rfl) Tryz.underlying42 (by kernel_rfl) (fun X j u W h=>run_part_plain W (by kernel_rfl) h) (wordsOf n t) [x0,x1,x2,x3,x4,x5,x6,x7] rfl rfl W;have e1:(List.map u64 [x0,x1,x2,x3,x4,x5,x6,x7]).toArray=#[.int .u64 x0.toNat,.int .u64 x1.toNat,.int .u64 n,.int .u64 t,.int .u64 x4.toNat,.int .u64 x5.toNat,.int .u64 x6.toNat,.int .u64 x7.toNat]:=by rw [HA.out,HT.out];rfl
       rw [e1] at hcmp;obtain ⟨V,hV⟩:=exq ((List.map u64 (wordsOf n t)).toArray)
       rw [←hV] at hcmp;have HV:=hD hV;have hz0:(n==0)=false:=by rw [beq_eq_false_iff_ne];omega
       have heql:∀W,(binOp .eql 51 (.agg #[.int .i64 n,.int .i64 t]) (.agg #[.int .i64 0,.int .i64 0])).run Tryz.prog W=.ok (.bool false) W:=by
        intro W;simp [go_sem,hz0]
       clear g0 g1 g2 c1 c2 t3 hok e1 hV hz0;obtain ⟨dB,hdB⟩:=exq (decide (wordsOf n t=[x0,x1,x2,x3,x4,x5,x6,x7]))
       rw [←hdB] at hcmp;have HDB:=hD hdB;clear hdB;have hat:at2 [x0,x1,x2,x3,x4,x5,x6,x7]=n∧at3 [x0,x1,x2,x3,x4,x5,x6,x7]=t:=⟨HA.out.symm,HT.out.symm⟩
       have HAT:=hD hat;clear hat;have k3:∀(W:World),Below w1.heap.size w1 W→W.heap[w.heap.size]?=some (.cells #[.int .i64 0,.int .i64 0] 51 (0,0)):=fun W b=>blk_below G0.out b;have K3:=hD k3;clear k3;cases dB;all_goals
        go_region_held3 (fun w'=>w'.cell? ⟨w.heap.size+1,0,none⟩=some (.int .i64 n)∧w'.cell? ⟨w.heap.size+1,1,none⟩=some (.int .i64 t)∧w'.cell? ⟨w.heap.size+1+1,0,none⟩=some (.int .u64 x0.toNat)∧w'.cell? ⟨w.heap.size+1+1,1,none⟩=some (.int .u64 x1.toNat)∧w'.cell? ⟨w.heap.size+1+1,2,none⟩=some (.int .u64 n)∧w'.cell? ⟨w.heap.size+1+1,3,none⟩=some (.int .u64 t)∧w'.cell? ⟨w.heap.size+1+1,4,none⟩=some (.int .u64 x4.toNat)∧w'.cell? ⟨w.heap.size+1+1,5,none⟩=some (.int .u64 x5.toNat)∧w'.cell? ⟨w.heap.size+1+1,6,none⟩=some (.int .u64 x6.toNat)∧w'.cell? ⟨w.heap.size+1+1,7,none⟩=some (.int .u64 x7.toNat))
         (first | exact ⟨s0,s1,a0,a1,a2,a3,a4,a5,a6,a7⟩ | exact ⟨(k2 _ _ (by omega)).trans s0,(k2 _ _ (by omega)).trans s1,(k2 _ _ (by omega)).trans a0,(k2 _ _ (by omega)).trans a1,(k2 _ _ (by omega)).trans a2,(k2 _ _ (by omega)).trans a3,(k2 _ _ (by omega)).trans a4,(k2 _ _ (by omega)).trans a5,(k2 _ _ (by omega)).trans a6,(k2 _ _ (by omega)).trans a7⟩)
         (first | (go_at_call 90;refine (words_any n t _ HOK.out).mono ?_;rw [show arr8 (wordsOf n t)=.agg V by rw [HV.out];rfl];rintro e w2 ⟨rfl,b2⟩;have k2:∀(g q:Nat),g<w1.heap.size→w2.cell? ⟨g,q,none⟩=w1.cell? ⟨g,q,none⟩:=fun g q hg=>b2.cell (p:=⟨g,q,none⟩) hg))
        have b3:=(below_drewN (Below.refl w1.heap.size w1) 1).trans b2;have z0:=blk_cell (K3.out _ b3);have zf:=blk_free (K3.out _ b3);have z1:=blk_cell (blk_below G1.out b3)
        have HB2:=hD b3;clear k2 b2 b3;go_wp2;try rw [Exit.noGoto_ret]
       ·have hno:¬ReadOk [x0,x1,x2,x3,x4,x5,x6,x7]:=by
         rintro ⟨_,h2⟩
         rw [HAT.out.1,HAT.out.2] at h2;exact absurd h2.symm (of_decide_eq_false HDB.out.symm)
        refine bodyPost_ret (v:=.tuple #[supV 0 0,.int .i64 50]) ?_ rfl ⟨?_,?_⟩
        ·simp [results,Tryz.results55,go_sem,supV,z0,zf]
        ·rw [if_neg hno,(rd_no hno).1,(rd_no hno).2]
        ·exact ((HB.out.trans (HB2.out.mono HB.out.size)).setCell (Nat.le_refl _) _).setCell (Nat.le_refl _) _
       ·have hyes:ReadOk [x0,x1,x2,x3,x4,x5,x6,x7]:=by
         unfold ReadOk;rw [HAT.out.1,HAT.out.2]
         exact ⟨HOK.out,(of_decide_eq_true HDB.out.symm).symm⟩
        refine bodyPost_ret (v:=.tuple #[supV n t,.int .i64 0]) ?_ rfl ⟨?_,?_⟩
        ·simp [results,Tryz.results55,go_sem,supV,z0,zf]
        ·rw [if_pos hyes,rdW,if_pos hyes,rdT,if_pos hyes,HAT.out.1,HAT.out.2]
        ·exact ((HB.out.trans (HB2.out.mono HB.out.size)).setCell (Nat.le_refl _) _).setCell (Nat.le_refl _) _
      ·have hne:(t==T)=false:=by rw [beq_eq_false_iff_ne];exact htT
       go_wp2
       go_round
       case rel=>exact ⟨t+1,by omega,by omega,rfl,by omega⟩
       case measure=>simp [intOf];omega
     ·go_wp2
      go_round
      case rel=>exact ⟨n+8,by omega,by omega,by have:=N3.out;omega,rfl,by omega⟩
      case measure=>simp [intOf];omega
   ·have hne:(n==A)=false:=by rw [beq_eq_false_iff_ne];exact hnA
    go_wp2
    go_loop [19] (fun t=>∃j:Int,0≤j∧j≤9∧t=.int .i64 j) (fun t=>(9-intOf t).toNat)
    case atStart=>exact ⟨0,by omega,by omega,rfl⟩
    case round=>
     obtain ⟨t,t1,t2,rfl⟩:=hrel;by_cases htl:t<9
     ·go_wp2
      go_round
      case rel=>exact ⟨t+1,by omega,by omega,rfl⟩
      case measure=>simp [intOf];omega
     ·go_wp2
      go_round
      case rel=>exact ⟨n+8,by omega,by omega,by have:=N3.out;omega,rfl,by have:=N3.out;have:=N4.out;omega⟩
      case measure=>simp [intOf];omega
  ·go_wp2;refine wp_gen (fun W=>W.heap[w.heap.size]?=some (.cells #[.int .i64 0,.int .i64 0] 51 (0,0))∧W.heap[w.heap.size+1]?=some (.cells #[.int .i64 0,.int .i64 0] 51 (0,0))∧
    W.heap[w.heap.size+1+1]?=some (.cells #[.int .u64 x0.toNat,.int .u64 x1.toNat,.int .u64 A,.int .u64 T,.int .u64 x4.toNat,.int .u64 x5.toNat,.int .u64 x6.toNat,.int .u64 x7.toNat] 164 (0,0))∧Below w.heap.size w W∧w.heap.size+3≤W.heap.size)
    ⟨by simp only [alloc_heap,Array.getElem?_push,Array.size_push];simp <;> omega,by simp only [alloc_heap,Array.getElem?_push,Array.size_push];simp <;> omega,by simp only [alloc_heap,Array.getElem?_push,Array.size_push];simp <;> omega,(((Below.refl _ w).alloc (Nat.le_refl _) _).alloc (by simp) _).alloc (by simp;omega) _,by simp⟩ ?_
   rintro w1 ⟨g0,g1,g2,B,hz⟩
   have c0:=blk_cell g0;have c1:=blk_cell g1;have c2:=blk_cell g2;have f0:=blk_free g0;have HB:=hD B;clear B;have G0:=hD g0;clear g0 g1 g2;go_big_quiet (fail)
   go_wp2;try rw [Exit.noGoto_ret]
   have hno:¬ReadOk [x0,x1,x2,x3,x4,x5,x6,x7]:=by
    rintro ⟨⟨⟨h1,h2,h3⟩,h4,h5⟩,_⟩
    have h6:at2 [x0,x1,x2,x3,x4,x5,x6,x7]=A:=HA.out.symm;have h7:at3 [x0,x1,x2,x3,x4,x5,x6,x7]=T:=HT.out.symm;rw [h6] at h1 h2 h3;rw [h7] at h4 h5;exact N4.out ⟨h1,by omega,h3,h5⟩
   refine bodyPost_ret (v:=.tuple #[supV 0 0,.int .i64 50]) ?_ rfl ⟨?_,?_⟩
   ·simp [results,Tryz.results55,go_sem,supV,c0,f0]
   ·rw [if_neg hno,(rd_no hno).1,(rd_no hno).2]
   ·exact ((below_drewN HB.out _).setCell (Nat.le_refl _) _).setCell (Nat.le_refl _) _
theorem Read6_any (v:Value) (l:List UInt64) (w:World) (h:Words w v l):
  Calls Tryz.prog 55 #[v] w fun e w'=>e=.returned (.tuple #[supV (rdW l) (rdT l),.int .i64 (rdErr l)])∧Below w.heap.size w w':=by
 by_cases hl:l.length=8
 ·rw [rdErr,if_pos hl];exact Read6_eight v l w h hl
 ·have hno:¬ReadOk l:=fun hr=>hl (readOk_len hr)
  rw [rdErr,if_neg hl,(rd_no hno).1,(rd_no hno).2];exact Read6_bad v l w h hl
end
section
open Go.RowKit L02 L05 L06
end
end Go.Proofs.YteejianjjpdimaaGreat
