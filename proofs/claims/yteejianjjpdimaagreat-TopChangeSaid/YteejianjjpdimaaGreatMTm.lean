/- Contracts of the functions that the laws 'T' reach, part 13. No condition. -/
import Derived.Test.YteejianjjpdimaaGreatMTl
set_option linter.unusedVariables false
set_option linter.unusedSimpArgs false
set_option maxRecDepth 100000
set_option maxHeartbeats 8000000
namespace Go.Proofs.YteejianjjpdimaaGreat.L20
open L02 L13 L18
def mvV (f:Nat→Nat) (k:UInt8) (v:UInt64):UInt64:=if k.toNat=3∧0<v.toNat then UInt64.ofNat (f (v.toNat-1)+1) else v
def mvO (f:Nat→Nat) (T:List (List UInt8)) (o:Ob):Ob:=⟨o.ty,(List.range o.fs.length).map fun j=>mvV f ((ty T o).getD j 0) (o.fs.getD j 0)⟩
def mvS (f:Nat→Nat) (s:Sl):Sl:=if s.used=true then ⟨s.gen,true,(f s.at_.toNat:Nat)⟩ else s
theorem mvO_len (f:Nat→Nat) (T:List (List UInt8)) (o:Ob):(mvO f T o).fs.length=o.fs.length:=by simp [mvO]
theorem mvO_ty (f:Nat→Nat) (T:List (List UInt8)) (o:Ob):ty T (mvO f T o)=ty T o:=rfl
theorem mvO_get {f:Nat→Nat} {T:List (List UInt8)} {o:Ob} {j:Nat} (h:j<o.fs.length):(mvO f T o).fs.getD j 0=mvV f ((ty T o).getD j 0) (o.fs.getD j 0):=by
 rw [List.getD_eq_getElem?_getD];simp [mvO,h]
theorem mvV_ref {f:Nat→Nat} {k:UInt8} {v:UInt64} (h:k.toNat=3) (h0:0<v.toNat) (h1:f (v.toNat-1)≤1000000):(mvV f k v).toNat=f (v.toNat-1)+1:=by
 rw [mvV,if_pos ⟨h,h0⟩,UInt64.toNat_ofNat_of_lt' (by unfold UInt64.size;omega)]
theorem mvV_other {f:Nat→Nat} {k:UInt8} {v:UInt64} (h:¬(k.toNat=3∧0<v.toNat)):mvV f k v=v:=if_neg h
theorem filterMap_eq {α β:Type} {f g:α→Option β}:∀{l:List α},(∀x∈l,f x=g x)→l.filterMap f=l.filterMap g
 | [],_=>rfl
 | a :: l,h=>by
  rw [List.filterMap_cons,List.filterMap_cons,h a List.mem_cons_self,filterMap_eq fun x hx=>h x (List.mem_cons_of_mem _ hx)]
structure Emb (p:Nat→Prop) (f:Nat→Nat) (m n:Mo):Prop where
 tys:n.types=m.types
 sls:n.slots=m.slots.map (mvS f)
 obs:∀i,p i→ob n (f i)=mvO f m.types (ob m i)
 low:∀i,p i→i<m.objs.length
 lt:∀i,p i→f i<n.objs.length
 inj:∀i j,p i→p j→f i=f j→i=j
 kid:∀i,p i→∀k∈kids m i,p k
 root:∀i∈roots m,p i
 few:n.objs.length≤1000000
section
variable {p:Nat→Prop} {f:Nat→Nat} {m n:Mo}
theorem kid_in {m:Mo} {i j:Nat} (hj:j<(ob m i).fs.length) (h3:((ty m.types (ob m i)).getD j 0).toNat=3) (h0:0<((ob m i).fs.getD j 0).toNat):((ob m i).fs.getD j 0).toNat-1∈kids m i:=by
 rw [kids,kidsTo,List.mem_filterMap]
 exact ⟨j,List.mem_range.2 hj,by rw [kidAt,if_pos ⟨h3,h0⟩]⟩
theorem Emb.kids (h:Emb p f m n) {i:Nat} (hi:p i):kids n (f i)=(kids m i).map f:=by
 rw [L20.kids,L20.kids,kidsTo,kidsTo,h.obs i hi,mvO_len,List.map_filterMap]
 refine filterMap_eq fun j hj=>?_;have hj:=List.mem_range.1 hj;rw [kidAt,kidAt,h.tys,mvO_ty,mvO_get hj]
 by_cases h3:((ty m.types (ob m i)).getD j 0).toNat=3
 ·by_cases h0:0<((ob m i).fs.getD j 0).toNat
  ·have hk:=kid_in hj h3 h0;have hlt:=h.lt _ (h.kid i hi _ hk)
   have:=h.few;rw [mvV_ref h3 h0 (by omega),if_pos ⟨h3,by omega⟩,if_pos ⟨h3,h0⟩];rfl
  ·rw [mvV_other (by omega),if_neg (by omega)];rfl
 ·rw [if_neg (by omega),if_neg (by omega)];rfl
theorem Emb.roots (h:Emb p f m n):roots n=(roots m).map f:=by
 rw [L20.roots,L20.roots,h.sls,List.filterMap_map,List.map_filterMap]
 refine filterMap_eq fun s hs=>?_;show rootOf (mvS f s)=_;unfold rootOf mvS;by_cases hu:s.used=true
 ·rw [if_pos hu,if_pos hu,if_pos rfl];simp
 ·rw [if_neg hu,if_neg hu];rfl
theorem Emb.rs (h:Emb p f m n) {ord l out:List Nat} (hr:Rs m ord l out):(∀x∈ord,p x)→(∀x∈l,p x)→Rs n (ord.map f) (l.map f) (out.map f):=by
 induction hr with
 | nil ord=>intro _ _;exact .nil _
 | @seen ord l out x h1 h2 ih=>
  intro a b;exact .seen (List.mem_map_of_mem h1) (ih a fun y hy=>b y (List.mem_cons_of_mem _ hy))
 | @new ord l out x h1 h2 ih=>
  intro a b;have hx:=b x List.mem_cons_self;have ih:=ih (fun y hy=>by
   rcases List.mem_append.1 hy with hy | hy
   ·exact a y hy
   ·rw [List.mem_singleton.1 hy];exact hx) (fun y hy=>by
   rcases List.mem_append.1 hy with hy | hy
   ·exact h.kid x hx y hy
   ·exact b y (List.mem_cons_of_mem _ hy))
  rw [List.map_append,List.map_append,←h.kids hx] at ih;refine .new (fun hm=>?_) ih;obtain ⟨y,hy,he⟩:=List.mem_map.1 hm;exact h1 (by rw [←h.inj y x (a y hy) hx he];exact hy)
theorem Emb.found (h:Emb p f m n) {out:List Nat} (hr:Rs m [] (L20.roots m) out):Rs n [] (L20.roots n) (out.map f):=by
 have:=h.rs hr (by simp) h.root;rw [h.roots];exact this
theorem Emb.all (h:Emb p f m n) {out:List Nat} (hr:Rs m [] (L20.roots m) out):∀x∈out,p x:=hr.all h.kid (by simp) h.root
theorem idxOf_map {f:Nat→Nat} {x:Nat}:∀{l:List Nat},(∀y∈l,f y=f x→y=x)→(l.map f).idxOf (f x)=l.idxOf x
 | [],_=>rfl
 | a :: l,h=>by
  rw [List.map_cons,List.idxOf_cons,List.idxOf_cons]
  by_cases e:a=x
  ·subst e;simp
  ·have e2:f a≠f x:=fun e2=>e (h a List.mem_cons_self e2)
   rw [beq_eq_false_iff_ne.2 e,beq_eq_false_iff_ne.2 e2,idxOf_map fun y hy=>h y (List.mem_cons_of_mem _ hy)]
theorem mem_map_inj {f:Nat→Nat} {x:Nat} {l:List Nat} (h:∀y∈l,f y=f x→y=x):f x∈l.map f↔x∈l:=by
 constructor
 ·intro hm;obtain ⟨y,hy,he⟩:=List.mem_map.1 hm;rw [←h y hy he];exact hy
 ·exact fun h=>List.mem_map_of_mem h
theorem Emb.reach (h:Emb p f m n) {out:List Nat} (hr:Reach m out):Reach n (out.map f):=by
 have hp:=h.all hr.rs;have nd:(out.map f).Nodup:=by
  have:=hr.nd;rw [List.nodup_iff_pairwise_ne,List.pairwise_map]
  exact (List.nodup_iff_pairwise_ne.1 this).imp_of_mem fun ha hb hne e=>hne (h.inj _ _ (hp _ ha) (hp _ hb) e)
 have lt:∀x∈out.map f,x<n.objs.length:=fun x hx=>by
  obtain ⟨y,hy,rfl⟩:=List.mem_map.1 hx;exact h.lt y (hp y hy)
 exact ⟨h.found hr.rs,nd,lt,nodup_lt nd lt⟩
theorem Emb.canon (h:Emb p f m n) {out:List Nat} (hc:chk m=0) (hr:Reach m out):canM n (out.map f)=canM m out:=by
 have hp:=h.all hr.rs;have hr':=h.reach hr;have hfew:=h.few;have hfew2:=(chk_ok hc).2.1;have hidx:∀x∈out,(canN n (out.map f)).getD (f x) 0=(canN m out).getD x 0:=fun x hx=>by
  have hinj:∀y∈out,f y=f x→y=x:=fun y hy e=>h.inj y x (hp y hy) (hp x hx) e;rw [List.getD_eq_getElem?_getD,List.getD_eq_getElem?_getD,canN_get (h.lt x (hp x hx)),canN_get (h.low x (hp x hx)),if_pos ((mem_map_inj hinj).2 hx),if_pos hx,idxOf_map hinj]
 rw [canM_eq hr,canM_eq hr',h.tys,List.map_map,h.sls,List.map_map]
 congr 1
 ·refine List.map_congr_left fun i hi=>?_;show mapO _ _ (ob n (f i)) _=_;rw [h.obs i (hp i hi),mvO_len]
  unfold mapO;rw [mvO_len,mvO_ty]
  show (⟨(ob m i).ty,_⟩:Ob)=_;congr 1;refine List.map_congr_left fun j hj=>?_;have hj:=List.mem_range.1 hj;rw [if_pos hj,if_pos hj,mvO_get hj]
  unfold numV;by_cases h3:((ty m.types (ob m i)).getD j 0).toNat=3
  ·by_cases h0:0<((ob m i).fs.getD j 0).toNat
   ·have hk:=hr.closed i hi _ (kid_in hj h3 h0)
    have hlt:=h.lt _ (hp _ hk)
    rw [mvV_ref h3 h0 (by omega),if_pos ⟨h3,by omega⟩,if_pos ⟨h3,h0⟩,Nat.add_sub_cancel,hidx _ hk]
   ·rw [mvV_other (by omega),if_neg (by omega),if_neg (by omega)]
  ·rw [mvV_other (by omega),if_neg (by omega),if_neg (by omega)]
 ·refine List.map_congr_left fun s hs=>?_;show numS _ (mvS f s)=numS _ s;unfold numS mvS;by_cases hu:s.used=true
  ·rw [if_pos hu,if_pos hu,if_pos rfl]
   have hm:s.at_.toNat∈out:=hr.rs.mem _ (by rw [L20.roots,List.mem_filterMap];exact ⟨s,hs,by rw [rootOf,if_pos hu]⟩)
   have:=hidx _ hm;show (⟨s.gen,true,_⟩:Sl)=_;congr 1
  ·rw [if_neg hu,if_neg hu,if_neg hu]
theorem Emb.right (h:Emb p f m n) (hc:chk m=0) (hs:∀j,j<n.objs.length→∃i,p i∧f i=j) (hl:n.objs.length≤960):chk n=0:=by
 obtain ⟨c1,c2,c3⟩:=chk_ok hc;refine chk_zero (by rw [h.tys];omega) ⟨by rw [h.sls,List.length_map];exact c3.1,by rw [h.tys];exact c3.2.1,fun o ho=>?_,fun s hs'=>?_⟩
 ·obtain ⟨j,hj⟩:=List.getElem?_of_mem ho;have hj1:=(List.getElem?_eq_some_iff.1 hj).1;obtain ⟨i,hi,rfl⟩:=hs j hj1;have hob:ob n (f i)=o:=by rw [ob,List.getD_eq_getElem?_getD,hj];rfl
  have hlow:=h.low i hi;have hoo:ObOk m.types m.objs.length (ob m i):=c3.2.2.1 _ (by rw [ob,List.getD_eq_getElem?_getD,List.getElem?_eq_getElem hlow];exact List.getElem_mem hlow)
  have e:=h.obs i hi;rw [hob] at e;rw [h.tys,e]
  refine ⟨hoo.1,by rw [mvO_len,mvO_ty];exact hoo.2.1,fun j hj=>?_⟩
  rw [mvO_len] at hj;rw [mvO_get hj,mvO_ty]
  have hfd:=hoo.2.2 j hj;by_cases h3:((ty m.types (ob m i)).getD j 0).toNat=3
  ·by_cases h0:0<((ob m i).fs.getD j 0).toNat
   ·have hk:=h.lt _ (h.kid i hi _ (kid_in hj h3 h0))
    refine ⟨fun e=>by omega,fun _=>?_⟩
    rw [mvV_ref h3 h0 (by omega)];omega
   ·rw [mvV_other (by omega)]
    exact ⟨hfd.1,fun _=>by omega⟩
  ·rw [mvV_other (by omega)]
   exact ⟨hfd.1,fun e=>absurd e h3⟩
 ·rw [h.sls] at hs';obtain ⟨s0,hs0,rfl⟩:=List.mem_map.1 hs';have hso:=c3.2.2.2 s0 hs0;unfold mvS;by_cases hu:s0.used=true
  ·rw [if_pos hu]
   have hr:s0.at_.toNat∈L20.roots m:=by rw [L20.roots,List.mem_filterMap];exact ⟨s0,hs0,by rw [rootOf,if_pos hu]⟩
   have:=h.lt _ (h.root _ hr)
   have h2:=hso.2.2 hu;exact ⟨hso.1,fun e=>(by cases e),fun _=>⟨h2.1,by show (0:Int)≤((f s0.at_.toNat:Nat):Int);omega,by show ((f s0.at_.toNat:Nat):Int)<_;omega⟩⟩
  ·rw [if_neg hu]
   exact ⟨hso.1,hso.2.1,fun e=>absurd e hu⟩
end
structure Ren (N:Nat) (ns:List Int):Prop where
 len:ns.length=N
 rng:∀(i:Nat) x,ns[i]?=some x→0≤x∧x<N
 inj:∀(i j:Nat) x,ns[i]?=some x→ns[j]?=some x→i=j
theorem Ren.sur {N:Nat} {ns:List Int} (h:Ren N ns) {w:Nat} (hw:w<N):∃k,k<N∧ns[k]?=some (w:Int):=by
 by_cases hm:(w:Int)∈ns
 ·obtain ⟨k,hk⟩:=List.getElem?_of_mem hm;exact ⟨k,by rw [←h.len];exact (List.getElem?_eq_some_iff.1 hk).1,hk⟩
 ·exfalso;have nd:(w :: ns.map Int.toNat).Nodup:=by
   rw [List.nodup_cons]
   refine ⟨fun hx=>?_,?_⟩
   ·obtain ⟨x,hx,e⟩:=List.mem_map.1 hx;obtain ⟨k,hk⟩:=List.getElem?_of_mem hx
    have:=h.rng k x hk;exact hm (by rw [←e,Int.toNat_of_nonneg this.1];exact hx)
   ·rw [List.nodup_iff_pairwise_ne,List.pairwise_map,List.pairwise_iff_getElem]
    intro i j hi hj hij e;have e1:=h.rng i _ (List.getElem?_eq_getElem hi)
    have e2:=h.rng j _ (List.getElem?_eq_getElem hj)
    have e3:ns[i]=ns[j]:=by omega
    have:=h.inj i j ns[i] (List.getElem?_eq_getElem hi) (by rw [e3];exact List.getElem?_eq_getElem hj)
    omega
  have:=nodup_lt (N:=N) nd (fun x hx=>by
   rcases List.mem_cons.1 hx with rfl | hx
   ·exact hw
   ·obtain ⟨y,hy,rfl⟩:=List.mem_map.1 hx;obtain ⟨k,hk⟩:=List.getElem?_of_mem hy
    have:=h.rng k y hk;omega)
  rw [List.length_cons,List.length_map,h.len] at this;omega
theorem Ren.id (N:Nat):Ren N (natI (List.range N)):=by
 have hg:∀(i:Nat) x,(natI (List.range N))[i]?=some x→i<N∧x=i:=fun i x hx=>by
  rw [natI,List.getElem?_map] at hx;rcases Nat.lt_or_ge i N with h | h
  ·rw [List.getElem?_range h] at hx;injection hx with hx;exact ⟨h,hx.symm⟩
  ·rw [List.getElem?_eq_none (by simpa using h)] at hx;cases hx
 exact ⟨by simp [natI],fun i x hx=>by have:=hg i x hx;omega,fun i j x hi hj=>by have:=hg i x hi;have:=hg j x hj;omega⟩
theorem Ren.emb {m:Mo} {ns:List Int} (h:Ren m.objs.length ns) (hc:chk m=0):Emb (·<m.objs.length) (fun i=>(ns.getD i 0).toNat) m (numM m ns)∧(numM m ns).objs.length=m.objs.length:=by
 have hl:=h.len;have hfew:=(chk_ok hc).2.1;have hget:∀i,i<m.objs.length→∃w:Nat,w<m.objs.length∧ns[i]?=some (w:Int):=fun i hi=>by
  have e:ns[i]?=some ns[i]:=List.getElem?_eq_getElem (by omega)
  have:=h.rng i _ e;obtain ⟨w,hw⟩:=Int.eq_ofNat_of_zero_le this.1;exact ⟨w,by omega,by rw [e,hw]⟩
 have hN:∀w k,w<m.objs.length→k<m.objs.length→ns[k]?=some (w:Int)→numN m ns w ns.length=[numO m ns (ob m k)]:=fun w k hw hk e=>by
  have e1:(List.range ns.length).filter (fun n=>decide (ns.getD n (-2)=(w:Int)))=(List.range ns.length).filter (fun n=>decide (n=k)):=by
   refine List.filter_congr fun n hn=>?_;have hn:=List.mem_range.1 hn;congr 1;rw [eq_iff_iff]
   constructor
   ·intro h1;have h2:ns[n]?=some (w:Int):=by rw [List.getElem?_eq_getElem hn,←h1,List.getD_eq_getElem?_getD,List.getElem?_eq_getElem hn];rfl
    exact h.inj n k _ h2 e
   ·rintro rfl;rw [List.getD_eq_getElem?_getD,e];rfl
  rw [numN,e1,range_filter,if_pos (by omega)];rfl
 have hJ:∀j,j≤m.objs.length→(numJ m ns j).length=j∧∀w k,w<j→k<m.objs.length→ns[k]?=some (w:Int)→(numJ m ns j)[w]?=some (numO m ns (ob m k)):=fun j=>by
  induction j with
  | zero=>intro _;exact ⟨rfl,fun w k h=>by omega⟩
  | succ j ih=>
   intro hj;obtain ⟨i1,i2⟩:=ih (by omega)
   obtain ⟨k0,hk0,e0⟩:=h.sur (w:=j) (by omega)
   rw [numJ_succ,hN j k0 (by omega) hk0 e0]
   refine ⟨by rw [List.length_append,i1];rfl,fun w k hw hk e=>?_⟩
   by_cases hwj:w<j
   ·rw [List.getElem?_append_left (by omega)];exact i2 w k hwj hk e
   ·obtain rfl:w=j:=by omega
    rw [List.getElem?_append_right (by omega),i1,Nat.sub_self]
    obtain rfl:=h.inj k k0 _ e e0;rfl
 have hol:(numM m ns).objs.length=m.objs.length:=by
  have:=(hJ ns.length (by omega)).1;rw [numM];show (numJ m ns ns.length).length=_;omega
 have hgd:∀(i w:Nat),ns[i]?=some (w:Int)→(ns.getD i 0).toNat=w∧ns.getD i 0=(w:Int):=fun i w e=>by rw [List.getD_eq_getElem?_getD,e];exact ⟨rfl,rfl⟩
 refine ⟨⟨rfl,?_,fun i hi=>?_,fun i hi=>hi,fun i hi=>?_,fun i j hi hj he=>?_,fun i hi=>kids_lt hc i hi,roots_lt hc,by omega⟩,hol⟩
 ·refine List.map_congr_left fun s hs=>?_;unfold numS mvS;by_cases hu:s.used=true
  ·rw [if_pos hu,if_pos hu]
   have:=roots_lt hc s.at_.toNat (by rw [roots,List.mem_filterMap];exact ⟨s,hs,by rw [rootOf,if_pos hu]⟩)
   obtain ⟨w,hw,e⟩:=hget _ this
   have:=hgd _ w e;show (⟨s.gen,true,ns.getD s.at_.toNat 0⟩:Sl)=⟨s.gen,true,(((ns.getD s.at_.toNat 0).toNat:Nat):Int)⟩
   rw [this.1,this.2]
  ·rw [if_neg hu,if_neg hu]
 ·obtain ⟨w,hw,e⟩:=hget i hi;have h1:=hgd i w e;try dsimp only
  rw [h1.1,ob,List.getD_eq_getElem?_getD]
  show ((numJ m ns ns.length)[w]?).getD _=_;rw [(hJ ns.length (by omega)).2 w i (by omega) hi e]
  show numO m ns (ob m i)=_;unfold numO mvO;congr 1;refine List.map_congr_left fun j hj=>?_;have hj:=List.mem_range.1 hj;by_cases h3:((ty m.types (ob m i)).getD j 0).toNat=3∧0<((ob m i).fs.getD j 0).toNat
  ·have hk:=kids_lt hc i hi _ (kid_in hj h3.1 h3.2)
   obtain ⟨w2,hw2,e2⟩:=hget _ hk;have h4:=hgd _ w2 e2;rw [numV,if_pos h3,mvV,if_pos h3,h4.2]
   congr 1
  ·rw [numV,if_neg h3,mvV,if_neg h3]
 ·obtain ⟨w,hw,e⟩:=hget i hi;have h1:=hgd i w e;try dsimp only
  rw [h1.1,hol];exact hw
 ·obtain ⟨w,hw,e⟩:=hget i hi;obtain ⟨w2,hw2,e2⟩:=hget j hj;have h1:=(hgd i w e).1;have h2:=(hgd j w2 e2).1;try dsimp only at he
  rw [h1,h2] at he;subst he;exact h.inj i j _ e e2
theorem Ren.ok {m:Mo} {ns:List Int} (h:Ren m.objs.length ns) (hc:chk m=0):NumOk m ns:=by
 have hfew:=(chk_ok hc).2.1;refine ⟨h.len,fun x hx=>?_⟩
 obtain ⟨k,hk⟩:=List.getElem?_of_mem hx
 have:=h.rng k x hk;omega
end Go.Proofs.YteejianjjpdimaaGreat.L20
namespace Go.Proofs.YteejianjjpdimaaGreat.L20
open L02 L13 L18
structure Iso (f:Nat→Nat) (m n:Mo):Prop where
 cm:chk m=0
 cn:chk n=0
 len:n.objs.length=m.objs.length
 tys:n.types=m.types
 sls:n.slots=m.slots.map (mvS f)
 obs:∀i,i<m.objs.length→ob n (f i)=mvO f m.types (ob m i)
 lt:∀i,i<m.objs.length→f i<m.objs.length
 inj:∀i j,i<m.objs.length→j<m.objs.length→f i=f j→i=j
theorem mvS_ug (f:Nat→Nat) (s:Sl):(mvS f s).used=s.used∧(mvS f s).gen=s.gen:=by
 unfold mvS;by_cases hu:s.used=true
 ·rw [if_pos hu,hu];exact ⟨rfl,rfl⟩
 ·rw [if_neg hu];exact ⟨rfl,rfl⟩
theorem mvS_at {f:Nat→Nat} {s:Sl} (hu:s.used=true):(mvS f s).at_=(f s.at_.toNat:Nat):=by rw [mvS,if_pos hu]
theorem mvS_getD (f:Nat→Nat) (S:List Sl) (k:Nat):(S.map (mvS f)).getD k .none=mvS f (S.getD k .none):=by
 rw [List.getD_eq_getElem?_getD,List.getD_eq_getElem?_getD,List.getElem?_map]
 cases S[k]? <;> rfl
theorem right_mv (f:Nat→Nat) (S:List Sl) (sl g:Int):rightErr (S.map (mvS f)) sl g=rightErr S sl g:=by
 unfold rightErr;rw [List.length_map,mvS_getD,(mvS_ug f _).1,(mvS_ug f _).2]
theorem next_mvF (f:Nat→Nat):∀(S:List Sl) (j:Nat),nextFrom (S.map (mvS f)) j=nextFrom S j
 | [],j=>rfl
 | s :: S,j=>by
  rw [List.map_cons,nextFrom,nextFrom,next_mvF f S]
  rw [(mvS_ug f s).1,(mvS_ug f s).2]
theorem next_mv (f:Nat→Nat) (S:List Sl):next (S.map (mvS f))=next S:=next_mvF f S 0
theorem mvV_zero (f:Nat→Nat) (k:UInt8):mvV f k 0=0:=mvV_other (by intro h;have:0<(0:UInt64).toNat:=h.2;simp at this)
theorem ob_eq {m:Mo} {i:Nat} (h:i<m.objs.length):m.objs[i]?=some (ob m i):=by rw [ob,List.getD_eq_getElem?_getD,List.getElem?_eq_getElem h];rfl
theorem ob_ok {m:Mo} (hc:chk m=0) {i:Nat} (h:i<m.objs.length):ObOk m.types m.objs.length (ob m i):=(chk_ok hc).2.2.2.2.1 _ (List.mem_of_getElem? (ob_eq h))
section
variable {f:Nat→Nat} {m n:Mo}
theorem Iso.emb (h:Iso f m n):Emb (·<m.objs.length) f m n:=⟨h.tys,h.sls,h.obs,fun _ hi=>hi,fun i hi=>by rw [h.len];exact h.lt i hi,h.inj,fun i hi=>kids_lt h.cm i hi,roots_lt h.cm,by have:=(chk_ok h.cn).2.1;omega⟩
theorem Iso.refl {m:Mo} (h:chk m=0):Iso id m m:=by
 have hs:∀s∈m.slots,mvS id s=s:=fun s hs=>by
  unfold mvS;by_cases hu:s.used=true
  ·rw [if_pos hu]
   have:=((chk_ok h).2.2.2.2.2 s hs).2.2 hu;obtain ⟨g,u,a⟩:=s;dsimp only at hu this;subst hu;show (⟨g,true,((a.toNat:Nat):Int)⟩:Sl)=⟨g,true,a⟩
   rw [Int.toNat_of_nonneg this.2.1]
  ·rw [if_neg hu]
 have hv:∀k v,mvV id k v=v:=fun k v=>by
  unfold mvV;split
  ·rename_i h0
   have:=v.toNat_lt;apply UInt64.toNat_inj.1;rw [UInt64.toNat_ofNat_of_lt' (by unfold UInt64.size;show v.toNat-1+1<_;omega)]
   show v.toNat-1+1=_;omega
  ·rfl
 refine ⟨h,h,rfl,rfl,?_,fun i hi=>?_,fun i hi=>hi,fun i j _ _ e=>e⟩
 ·have:m.slots.map (mvS id)=m.slots.map id:=List.map_congr_left hs;rw [this,List.map_id]
 ·show ob m i=mvO id m.types (ob m i)
  unfold mvO;obtain ⟨t,fs⟩:=ob m i;show (⟨t,fs⟩:Ob)=⟨t,_⟩
  congr 1;apply List.ext_getElem?;intro j;rcases Nat.lt_or_ge j fs.length with hj | hj
  ·simp [hj,hv,List.getD_eq_getElem?_getD]
  ·rw [List.getElem?_eq_none hj,List.getElem?_eq_none (by simpa using hj)]
theorem mvV_comp {f g:Nat→Nat} {k:UInt8} {v:UInt64} (h1:k.toNat=3→0<v.toNat→f (v.toNat-1)≤1000000):mvV g k (mvV f k v)=mvV (fun i=>g (f i)) k v:=by
 by_cases h:k.toNat=3∧0<v.toNat
 ·have e:=mvV_ref h.1 h.2 (h1 h.1 h.2)
  rw [mvV,if_pos (show _∧_ from ⟨h.1,by omega⟩),e,Nat.add_sub_cancel,mvV,if_pos h]
 ·rw [mvV_other h,mvV_other h,mvV_other h]
theorem Iso.trans {g:Nat→Nat} {o:Mo} (h:Iso f m n) (h2:Iso g n o):Iso (fun i=>g (f i)) m o:=by
 have hl:=h.len;have h960:=(chk_ok h.cm).2.1;refine ⟨h.cm,h2.cn,h2.len.trans h.len,h2.tys.trans h.tys,?_,fun i hi=>?_,fun i hi=>?_,fun i j hi hj e=>?_⟩
 ·rw [h2.sls,h.sls,List.map_map]
  refine List.map_congr_left fun s hs=>?_;show mvS g (mvS f s)=mvS _ s;by_cases hu:s.used=true
  ·unfold mvS;rw [if_pos hu,if_pos rfl,if_pos hu];rfl
  ·unfold mvS;rw [if_neg hu,if_neg hu,if_neg hu]
 ·have hfi:=h.lt i hi;rw [h2.obs (f i) (by omega),h.obs i hi,h.tys]
  unfold mvO;show (⟨(ob m i).ty,_⟩:Ob)=⟨(ob m i).ty,_⟩
  congr 1;show List.map _ (List.range (mvO f m.types (ob m i)).fs.length)=_;rw [mvO_len]
  refine List.map_congr_left fun j hj=>?_;have hj:=List.mem_range.1 hj;show mvV g ((ty m.types (ob m i)).getD j 0) ((mvO f m.types (ob m i)).fs.getD j 0)=_;rw [mvO_get hj]
  refine mvV_comp fun h3 h0=>?_
  have:=(ob_ok h.cm hi).2.2 j hj |>.2 h3
  have:=h.lt _ (show ((ob m i).fs.getD j 0).toNat-1<m.objs.length by omega)
  omega
 ·have:=h.lt i hi
  have:=h2.lt (f i) (by omega)
  omega
 ·exact h.inj i j hi hj (h2.inj _ _ (by have:=h.lt i hi;omega) (by have:=h.lt j hj;omega) e)
theorem Iso.asked (h:Iso f m n) (sl g:Int):asked n sl g=asked m sl g:=by
 rw [L20.asked,L20.asked,if_pos h.cn,if_pos h.cm,h.sls,right_mv]
theorem Iso.own (h:Iso f m n) {sl g:Int} (ha:L20.asked m sl g=0):own n sl=f (own m sl)∧own m sl<m.objs.length:=by
 obtain ⟨_,_,k,s,nn,o,t,rfl,hk,hs,hu,hg,hso,hat,hown,hobj,_⟩:=asked_ok ha;refine ⟨?_,by rw [hown];exact (List.getElem?_eq_some_iff.1 hobj).1⟩
 have e:m.slots.getD k .none=s:=by rw [List.getD_eq_getElem?_getD,hs];rfl
 rw [L20.own,L20.own,h.sls,Int.toNat_natCast,mvS_getD,e,mvS_at hu];rfl
theorem Iso.kinds (h:Iso f m n) {sl g:Int} (ha:L20.asked m sl g=0):kinds n sl=kinds m sl:=by
 obtain ⟨e,hlt⟩:=h.own ha;rw [L20.kinds,L20.kinds,e,h.obs _ hlt,h.tys,mvO_ty]
theorem Iso.kErrF (h:Iso f m n) (sl g i:Int):kErrF n sl g i=kErrF m sl g i:=by
 by_cases ha:L20.asked m sl g=0
 ·rw [L20.kErrF,L20.kErrF,if_pos ha,if_pos (by rw [h.asked];exact ha),h.kinds ha]
 ·rw [L20.kErrF,L20.kErrF,if_neg ha,if_neg (by rw [h.asked];exact ha),h.asked]
theorem Iso.kind (h:Iso f m n) (sl g i:Int):kind n sl g i=kind m sl g i:=by
 rw [L20.kind,L20.kind,h.kErrF]
 by_cases hk:L20.kErrF m sl g i=0
 ·rw [if_pos hk,if_pos hk,h.kinds (kErrF_inv hk).1]
 ·rw [if_neg hk,if_neg hk]
theorem Iso.fldl (h:Iso f m n) {sl g i:Int} (hk:L20.kErrF m sl g i=0):i.toNat<(ob m (L20.own m sl)).fs.length∧(ty m.types (ob m (L20.own m sl))).getD i.toNat 0=L20.kind m sl g i∧FdOk m.objs.length (L20.kind m sl g i) (fld m sl i):=by
 obtain ⟨ha,h0,h1⟩:=kErrF_inv hk;obtain ⟨e,hlt⟩:=h.own ha;have hoo:=ob_ok h.cm hlt;have hi:i.toNat<(ob m (L20.own m sl)).fs.length:=by
  rw [hoo.2.1]
  show i.toNat<(L20.kinds m sl).length;omega
 have e2:(ty m.types (ob m (L20.own m sl))).getD i.toNat 0=L20.kind m sl g i:=by rw [L20.kind,if_pos hk];rfl
 refine ⟨hi,e2,?_⟩
 rw [←e2]
 exact hoo.2.2 _ hi
theorem Iso.fld (h:Iso f m n) {sl g i:Int} (hk:L20.kErrF m sl g i=0):fld n sl i=mvV f (L20.kind m sl g i) (fld m sl i):=by
 obtain ⟨ha,h0,h1⟩:=kErrF_inv hk;obtain ⟨e,hlt⟩:=h.own ha;obtain ⟨hi,e2,_⟩:=h.fldl hk;rw [L20.fld,L20.fld,e,h.obs _ hlt,mvO_get hi,e2]
theorem Iso.getE (h:Iso f m n) (sl g i:Int):getE n sl g i=getE m sl g i:=by rw [L20.getE,L20.getE,h.kErrF,h.kind]
theorem getE_inv {m:Mo} {sl g i:Int} (h:getE m sl g i=0):L20.kErrF m sl g i=0∧(L20.kind m sl g i).toNat≠3:=by
 unfold L20.getE at h;split at h
 ·split at h
  ·omega
  ·rename_i h1 h2;exact ⟨h1,h2⟩
 ·rename_i h1;exact absurd h h1
theorem Iso.getV (h:Iso f m n) (sl g i:Int):getV n sl g i=getV m sl g i:=by
 rw [L20.getV,L20.getV,h.getE]
 by_cases he:L20.getE m sl g i=0
 ·rw [if_pos he,if_pos he]
  obtain ⟨h1,h2⟩:=getE_inv he;rw [h.fld h1,mvV_other (fun e=>h2 e.1)]
 ·rw [if_neg he,if_neg he]
theorem Iso.putF (h:Iso f m n) {k i:Nat} {x:UInt64} (hk:k<m.objs.length) (hv:FdOk m.objs.length ((ty m.types (ob m k)).getD i 0) x):Iso f (putF m k i x) (putF n (f k) i (mvV f ((ty m.types (ob m k)).getD i 0) x)):=by
 have hf:=h.lt k hk;have hl:=h.len;have h960:=(chk_ok h.cm).2.1;have ho:=h.obs k hk;have hc1:=chk_putF h.cm hk (fun _=>hv)
 have hx:FdOk n.objs.length ((ty n.types (ob n (f k))).getD i 0) (mvV f ((ty m.types (ob m k)).getD i 0) x):=by
  rw [ho,h.tys,mvO_ty,hl]
  by_cases h3:((ty m.types (ob m k)).getD i 0).toNat=3∧0<x.toNat
  ·have:=hv.2 h3.1;have h4:=h.lt (x.toNat-1) (by omega)
   refine ⟨fun e=>by omega,fun _=>?_⟩
   rw [mvV_ref h3.1 h3.2 (by omega)];omega
  ·rw [mvV_other h3];exact hv
 refine ⟨hc1,chk_putF h.cn (by omega) (fun _=>hx),by rw [len_putF,len_putF];exact hl,h.tys,h.sls,fun j hj=>?_,fun j hj=>by rw [len_putF] at hj ⊢;exact h.lt j hj,fun a b ha hb e=>?_⟩
 ·rw [len_putF] at hj;show ob (L20.putF n (f k) i _) (f j)=mvO f m.types (ob (L20.putF m k i x) j)
  by_cases e:k=j
  ·subst e;rw [ob_putF (by omega),ob_putF hk,ho]
   show (⟨(ob m k).ty,_⟩:Ob)=_;unfold mvO;show (⟨(ob m k).ty,_⟩:Ob)=⟨(ob m k).ty,_⟩
   congr 1;apply List.ext_getElem?;intro a;show ((List.map _ (List.range (ob m k).fs.length)).set i _)[a]?=(List.map _ (List.range ((ob m k).fs.set i x).length))[a]?;rw [List.length_set]
   rcases Nat.lt_or_ge a (ob m k).fs.length with ha | ha
   ·by_cases e:i=a
    ·subst e;rw [List.getElem?_set_self (by simpa using ha),List.getElem?_map,List.getElem?_range ha]
     show some _=some (mvV f ((ty m.types (ob m k)).getD i 0) (((ob m k).fs.set i x).getD i 0))
     rw [List.getD_eq_getElem?_getD (l:=(ob m k).fs.set i x),List.getElem?_set_self ha];rfl
    ·rw [List.getElem?_set_ne e,List.getElem?_map,List.getElem?_map,List.getElem?_range ha]
     show some (mvV f ((ty m.types (ob m k)).getD a 0) ((ob m k).fs.getD a 0))=some (mvV f ((ty m.types (ob m k)).getD a 0) (((ob m k).fs.set i x).getD a 0))
     rw [List.getD_eq_getElem?_getD (l:=(ob m k).fs.set i x),List.getElem?_set_ne e,←List.getD_eq_getElem?_getD]
   ·rw [List.getElem?_eq_none (by rw [List.length_set];simpa using ha),List.getElem?_eq_none (by simpa using ha)]
  ·rw [ob_putF_ne (fun e2=>e (h.inj k j hk hj e2)),ob_putF_ne e,h.obs j hj]
 ·rw [len_putF] at ha hb;exact h.inj a b ha hb e
theorem Iso.slot (h:Iso f m n) {k:Nat} {s s':Sl} (e:s'=mvS f s) (c1:chk ⟨m.types,m.objs,m.slots.set k s⟩=0) (c2:chk ⟨n.types,n.objs,n.slots.set k s'⟩=0):Iso f ⟨m.types,m.objs,m.slots.set k s⟩ ⟨n.types,n.objs,n.slots.set k s'⟩:=by
 subst e;refine ⟨c1,c2,h.len,h.tys,?_,h.obs,h.lt,h.inj⟩
 show n.slots.set k (mvS f s)=(m.slots.set k s).map (mvS f)
 rw [h.sls,List.map_set]
theorem chk_slot {m:Mo} {k:Nat} {s:Sl} (hc:chk m=0) (hs:SlOk m.objs.length s):chk ⟨m.types,m.objs,m.slots.set k s⟩=0:=by
 obtain ⟨c1,c2,c3,c4,c5,c6⟩:=chk_ok hc;refine chk_zero (by dsimp only;omega) ⟨by dsimp only;rw [List.length_set];exact c3,c4,c5,fun x hx=>?_⟩
 rcases List.mem_or_eq_of_mem_set hx with hx | rfl
 ·exact c6 x hx
 ·exact hs
theorem Iso.drop (h:Iso f m n) {sl g:Int} (ha:L20.asked m sl g=0):Iso f (dropM m sl g) (dropM n sl g):=by
 obtain ⟨_,_,k,s,nn,o,t,rfl,hk,hs,hu,hg,hso,_⟩:=asked_ok ha;have hg2:=hso.1;rw [hg] at hg2;have hok:∀N,SlOk N ⟨g,false,0⟩:=fun N=>⟨hg2,fun _=>rfl,fun e=>by cases e⟩
 rw [dropM,if_pos ha,dropM,if_pos (by rw [h.asked];exact ha)]
 exact h.slot rfl (chk_slot h.cm (hok _)) (chk_slot h.cn (hok _))
theorem Iso.set (h:Iso f m n) {sl g i:Int} (x:UInt64) (he:L20.getE m sl g i=0):Iso f (setM m sl g i x) (setM n sl g i x):=by
 obtain ⟨h1,h2⟩:=getE_inv he;obtain ⟨hi,e2,_⟩:=h.fldl h1;obtain ⟨e,hlt⟩:=h.own (kErrF_inv h1).1;rw [setM,if_pos he,setM,if_pos (by rw [h.getE];exact he),L20.put,L20.put,e,h.kind]
 have:=h.putF (k:=L20.own m sl) (i:=i.toNat) (x:=setV (L20.kind m sl g i) x) hlt (by rw [e2];exact setV_ok h2)
 rw [e2,mvV_other (fun e=>h2 e.1)] at this;exact this
theorem Iso.right (h:Iso f m n) (a b:Int):rightErr n.slots a b=rightErr m.slots a b:=by rw [h.sls,right_mv]
theorem Iso.refE (h:Iso f m n) (sl g i a b:Int):refE n sl g i (some (a,b))=refE m sl g i (some (a,b)):=by
 unfold L20.refE;rw [h.kErrF,h.kind]
 dsimp only;rw [h.right]
theorem refE_inv {m:Mo} {sl g i a b:Int} (h:refE m sl g i (some (a,b))=0):L20.kErrF m sl g i=0∧(L20.kind m sl g i).toNat=3∧rightErr m.slots a b=0:=by
 unfold L20.refE at h;split at h
 ·split at h
  ·rename_i h1 h2;exact ⟨h1,h2,h⟩
  ·omega
 ·rename_i h1;exact absurd h h1
theorem Iso.ref (h:Iso f m n) {sl g i a b:Int} (he:L20.refE m sl g i (some (a,b))=0):Iso f (refM m sl g i (some (a,b))) (refM n sl g i (some (a,b))):=by
 obtain ⟨h1,h2,h3⟩:=refE_inv he;obtain ⟨hi,e2,_⟩:=h.fldl h1;obtain ⟨e,hlt⟩:=h.own (kErrF_inv h1).1;obtain ⟨eo,hlo⟩:=h.own (sl:=a) (g:=b) (by rw [asked_eq h.cm];exact h3)
 have h960:=(chk_ok h.cm).2.1;rw [refM,if_pos he,refM,if_pos (by rw [h.refE];exact he),L20.put,L20.put,e]
 dsimp only;rw [eo]
 have ho:(UInt64.ofNat (L20.own m a+1)).toNat=L20.own m a+1:=UInt64.toNat_ofNat_of_lt' (by unfold UInt64.size;omega)
 have:=h.putF (k:=L20.own m sl) (i:=i.toNat) (x:=UInt64.ofNat (L20.own m a+1)) hlt (by rw [e2];exact ⟨fun e=>by omega,fun _=>by rw [ho];omega⟩)
 rw [e2,mvV,if_pos (show _∧_ from ⟨h2,by rw [ho];omega⟩),ho,Nat.add_sub_cancel] at this;exact this
theorem Iso.fld0 (h:Iso f m n) {sl g i:Int} (hk:L20.kErrF m sl g i=0):L20.fld n sl i=0↔L20.fld m sl i=0:=by
 rw [h.fld hk]
 have h960:=(chk_ok h.cm).2.1;by_cases h3:(L20.kind m sl g i).toNat=3∧0<(L20.fld m sl i).toNat
 ·have hfd:=(h.fldl hk).2.2.2 h3.1
  have:=h.lt ((L20.fld m sl i).toNat-1) (by omega)
  have e:=mvV_ref (f:=f) h3.1 h3.2 (by omega)
  constructor
  ·intro h0;rw [h0] at e;simp at e
  ·intro h0;rw [h0] at h3;simp at h3
 ·rw [mvV_other h3]
theorem Iso.rootE (h:Iso f m n) (sl g i:Int):rootE n sl g i=rootE m sl g i:=by
 unfold L20.rootE;rw [h.kErrF,h.kind,h.sls,next_mv]
 by_cases hk:L20.kErrF m sl g i=0
 ·rw [if_pos hk,if_pos hk]
  split
  ·have:=h.fld0 hk;by_cases h0:L20.fld m sl i=0
   ·rw [if_pos h0,if_pos (this.2 h0)]
   ·rw [if_neg h0,if_neg (fun e=>h0 (this.1 e))]
  ·rfl
 ·rw [if_neg hk,if_neg hk]
theorem Iso.rootS (h:Iso f m n) (sl g i:Int):rootS n sl g i=rootS m sl g i:=by rw [L20.rootS,L20.rootS,h.rootE,h.sls,next_mv]
theorem Iso.rootG (h:Iso f m n) (sl g i:Int):rootG n sl g i=rootG m sl g i:=by rw [L20.rootG,L20.rootG,h.rootE,h.sls,next_mv,mvS_getD,(mvS_ug f _).2]
theorem rootE_inv {m:Mo} {sl g i:Int} (h:L20.rootE m sl g i=0):L20.kErrF m sl g i=0∧(L20.kind m sl g i).toNat=3∧L20.fld m sl i≠0∧next m.slots≠none:=by
 unfold L20.rootE at h;split at h
 ·split at h
  ·split at h
   ·omega
   ·split at h
    ·omega
    ·rename_i h1 h2 h3 h4;exact ⟨h1,h2,h3,h4⟩
  ·omega
 ·rename_i h1;exact absurd h h1
theorem given_ok {m:Mo} {x:Nat} (hc:chk m=0) (hn:next m.slots≠none) (hx:x<m.objs.length):SlOk m.objs.length ⟨(m.slots.getD ((next m.slots).getD 0) .none).gen+1,true,(x:Nat)⟩:=by
 obtain ⟨k,hk⟩:=Option.ne_none_iff_exists'.1 hn;obtain ⟨_,⟨s,hs,hu,hg1⟩,_⟩:=nextFrom_some hk;rw [Nat.sub_zero] at hs;have hso:=(chk_ok hc).2.2.2.2.2 s (List.mem_of_getElem? hs)
 have e:m.slots.getD ((next m.slots).getD 0) .none=s:=by rw [hk,Option.getD_some,List.getD_eq_getElem?_getD,hs];rfl
 rw [e]
 have:=hso.1;exact ⟨⟨by show 0≤s.gen+1;omega,by show s.gen+1≤2147483647;omega⟩,fun e=>(by cases e),fun _=>⟨by show 0<s.gen+1;omega,by show (0:Int)≤(x:Int);omega,by show (x:Int)<_;omega⟩⟩
theorem Iso.give (h:Iso f m n) {x:Nat} (hn:next m.slots≠none) (hx:x<m.objs.length):Iso f ⟨m.types,m.objs,givS m x ((next m.slots).getD 0)⟩ ⟨n.types,n.objs,givS n (f x:Nat) ((next n.slots).getD 0)⟩:=by
 have e:(next n.slots).getD 0=(next m.slots).getD 0:=by rw [h.sls,next_mv]
 have hg:(n.slots.getD ((next n.slots).getD 0) .none).gen=(m.slots.getD ((next m.slots).getD 0) .none).gen:=by rw [e,h.sls,mvS_getD,(mvS_ug f _).2]
 have hl:=h.len;have hf:=h.lt x hx;have c2:=given_ok (x:=f x) h.cn (by rw [h.sls,next_mv];exact hn) (by omega)
 rw [hg] at c2;unfold givS;rw [hg,e]
 exact h.slot (by rw [mvS,if_pos rfl];rfl) (chk_slot h.cm (given_ok h.cm hn hx)) (chk_slot h.cn c2)
theorem Iso.root (h:Iso f m n) {sl g i:Int} (he:L20.rootE m sl g i=0):Iso f (rootM m sl g i) (rootM n sl g i):=by
 obtain ⟨h1,h2,h3,h4⟩:=rootE_inv he;have h0:0<(L20.fld m sl i).toNat:=Nat.pos_of_ne_zero fun e=>h3 (UInt64.toNat.inj e)
 have hfd:=(h.fldl h1).2.2.2 h2;have h960:=(chk_ok h.cm).2.1;have hx:(L20.fld m sl i).toNat-1<m.objs.length:=by omega
 have hfx:=h.lt _ hx;rw [rootM,if_pos he,rootM,if_pos (by rw [h.rootE];exact he),h.fld h1,mvV_ref h2 h0 (by omega),Nat.add_sub_cancel]
 exact h.give h4 hx
theorem Iso.allE (h:Iso f m n) (t:Int):allE n t=allE m t:=by
 unfold L20.allE;rw [if_pos h.cn,if_pos h.cm,h.tys,h.sls,next_mv,h.len]
theorem Iso.allS (h:Iso f m n) (t:Int):allS n t=allS m t:=by rw [L20.allS,L20.allS,h.allE,h.sls,next_mv]
theorem Iso.allG (h:Iso f m n) (t:Int):allG n t=allG m t:=by rw [L20.allG,L20.allG,h.allE,h.sls,next_mv,mvS_getD,(mvS_ug f _).2]
theorem Iso.all (h:Iso f m n) {t:Int} (he:L20.allE m t=0):∃f',Iso f' (allM m t) (allM n t):=by
 obtain ⟨k,g0,a⟩:=Alld.of he;obtain ⟨k2,g2,a2⟩:=Alld.of (m:=n) (t:=t) (by rw [h.allE];exact he)
 have hl:=h.len;have h960:=(chk_ok h.cm).2.1;have ek:k2=k:=by have:=h.allS t;rw [a.hS,a2.hS] at this;omega
 have eg:g2=g0:=by have:=h.allG t;rw [a.hG,a2.hG] at this;omega
 subst ek;subst eg;obtain ⟨f',hf'⟩:∃f':Nat→Nat,f'=fun i=>if i<m.objs.length then f i else i:=⟨_,rfl⟩
 have f1:∀i,i<m.objs.length→f' i=f i:=fun i hi=>by rw [hf'];exact if_pos hi
 have f2:f' m.objs.length=m.objs.length:=by rw [hf'];exact if_neg (by omega)
 have hO:∀i,i<m.objs.length→mvO f' m.types (ob m i)=mvO f m.types (ob m i):=fun i hi=>by
  unfold mvO;congr 1;refine List.map_congr_left fun j hj=>?_;have hj:=List.mem_range.1 hj;by_cases h3:((ty m.types (ob m i)).getD j 0).toNat=3∧0<((ob m i).fs.getD j 0).toNat
  ·have:=((ob_ok h.cm hi).2.2 j hj).2 h3.1;rw [mvV,mvV,if_pos h3,if_pos h3,f1 _ (by omega)]
  ·rw [mvV_other h3,mvV_other h3]
 have c1:=a.ok;have c2:=a2.ok;have e1:=a.hM;have e2:=a2.hM;refine ⟨f',c1,c2,?_,?_,?_,fun i hi=>?_,fun i hi=>?_,fun i j hi hj e=>?_⟩
 ·rw [a.len,a2.len,hl]
 ·rw [e1,e2];exact h.tys
 ·rw [e1,e2,hl]
  show n.slots.set _ _=(m.slots.set _ _).map _;rw [List.map_set,h.sls]
  congr 1
  ·refine List.map_congr_left fun s hs=>?_;unfold mvS;by_cases hu:s.used=true
   ·rw [if_pos hu,if_pos hu]
    have:=((chk_ok h.cm).2.2.2.2.2 s hs).2.2 hu;rw [f1 _ (by omega)]
   ·rw [if_neg hu,if_neg hu]
  ·rw [mvS,if_pos rfl]
   show (⟨g2+1,true,((m.objs.length:Nat):Int)⟩:Sl)=⟨g2+1,true,((f' (m.objs.length:Int).toNat:Nat):Int)⟩
   rw [Int.toNat_natCast,f2]
 ·rw [a.len] at hi;have ea:∀j,j<m.objs.length→ob (allM m t) j=ob m j:=fun j hj=>by
   rw [e1,ob,ob,List.getD_eq_getElem?_getD,List.getD_eq_getElem?_getD,List.getElem?_append_left hj]
  have en:∀j,j<m.objs.length→ob (allM n t) j=ob n j:=fun j hj=>by
   rw [e2,ob,ob,List.getD_eq_getElem?_getD,List.getD_eq_getElem?_getD,List.getElem?_append_left (by omega)]
  have et:(allM m t).types=m.types:=by rw [e1]
  rw [et]
  by_cases hi2:i<m.objs.length
  ·rw [f1 i hi2,en _ (h.lt i hi2),ea i hi2,h.obs i hi2,hO i hi2]
  ·obtain rfl:i=m.objs.length:=by omega
   have o1:ob (allM m t) m.objs.length=newO m t:=by rw [e1,ob,List.getD_eq_getElem?_getD,List.getElem?_append_right (Nat.le_refl _),Nat.sub_self];rfl
   have o2:ob (allM n t) m.objs.length=newO n t:=by rw [e2,←hl,ob,List.getD_eq_getElem?_getD,List.getElem?_append_right (Nat.le_refl _),Nat.sub_self];rfl
   rw [f2,o1,o2,newO,newO,h.tys]
   unfold mvO;show (⟨t,_⟩:Ob)=⟨t,_⟩
   congr 1;apply List.ext_getElem?;intro j;show (List.replicate _ (0:UInt64))[j]?=(List.map (fun j=>mvV f' ((ty m.types _).getD j 0) ((List.replicate (m.types.getD t.toNat []).length (0:UInt64)).getD j 0)) (List.range (List.replicate (m.types.getD t.toNat []).length (0:UInt64)).length))[j]?;rw [List.length_replicate]
   rcases Nat.lt_or_ge j (m.types.getD t.toNat []).length with hj | hj
   ·rw [List.getElem?_replicate,if_pos hj,List.getElem?_map,List.getElem?_range hj]
    show some _=some (mvV f' _ ((List.replicate _ (0:UInt64)).getD j 0))
    rw [zeros_get,mvV_zero]
   ·rw [List.getElem?_eq_none (by simpa using hj),List.getElem?_eq_none (by simpa using hj)]
 ·rw [a.len] at hi ⊢;by_cases hi2:i<m.objs.length
  ·rw [f1 i hi2];have:=h.lt i hi2;omega
  ·obtain rfl:i=m.objs.length:=by omega
   rw [f2];omega
 ·rw [a.len] at hi hj;by_cases hi2:i<m.objs.length
  ·rw [f1 i hi2] at e;by_cases hj2:j<m.objs.length
   ·rw [f1 j hj2] at e;exact h.inj i j hi2 hj2 e
   ·obtain rfl:j=m.objs.length:=by omega
    rw [f2] at e
    have:=h.lt i hi2;omega
  ·obtain rfl:i=m.objs.length:=by omega
   rw [f2] at e;by_cases hj2:j<m.objs.length
   ·rw [f1 j hj2] at e
    have:=h.lt j hj2;omega
   ·omega
end
end Go.Proofs.YteejianjjpdimaaGreat.L20
namespace Go.Proofs.YteejianjjpdimaaGreat.L20
open L02 L13 L18
def lo (q j:Nat):Nat:=if q<j then j-1 else j
theorem lo_sk (q w:Nat):lo q (sk q w)=w:=by unfold lo sk;split <;> split <;> omega
theorem sk_lo {q j:Nat} (h:j≠q):sk q (lo q j)=j:=by unfold lo sk;split <;> split <;> omega
theorem sk_ne (q w:Nat):sk q w≠q:=by unfold sk;split <;> omega
theorem sk_lt {q w N:Nat} (h:w<N-1):sk q w<N:=by unfold sk;split <;> omega
theorem lo_lt {q j N:Nat} (h:j<N) (hq:q<N) (hn:j≠q):lo q j<N-1:=by unfold lo;split <;> omega
theorem lo_inj {q i j:Nat} (hi:i≠q) (hj:j≠q) (h:lo q i=lo q j):i=j:=by rw [←sk_lo hi,←sk_lo hj,h]
theorem sk_inj {q i j:Nat} (h:sk q i=sk q j):i=j:=by rw [←lo_sk q i,←lo_sk q j,h]
theorem lowV_ref {q:Nat} {k:UInt8} {v:UInt64} (h:k.toNat=3) (h0:0<v.toNat):(lowV q k v).toNat=lo q (v.toNat-1)+1:=by
 unfold lowV lo;by_cases h1:q+1<v.toNat
 ·rw [if_pos ⟨h,h1⟩,if_pos (by omega)]
  have hone:(1:UInt64)≤v:=by rw [UInt64.le_iff_toNat_le];show 1≤v.toNat;omega
  rw [UInt64.toNat_sub_of_le _ _ hone]
  show v.toNat-1=_;omega
 ·rw [if_neg (fun e=>h1 e.2),if_neg (by omega)];omega
theorem lowV_other {q:Nat} {k:UInt8} {v:UInt64} (h:¬(k.toNat=3∧0<v.toNat)):lowV q k v=v:=if_neg (by omega)
theorem lowA_nat {q a:Nat}:lowA q (a:Int)=(lo q a:Nat):=by unfold lowA lo;split <;> split <;> omega
theorem lowO_len (m:Mo) (q:Nat) (o:Ob):(lowO m q o).fs.length=o.fs.length:=by simp [lowO]
theorem lowO_get {m:Mo} {q:Nat} {o:Ob} {j:Nat} (h:j<o.fs.length):(lowO m q o).fs.getD j 0=lowV q ((ty m.types o).getD j 0) (o.fs.getD j 0):=by
 rw [List.getD_eq_getElem?_getD];simp [lowO,h]
structure Fr (m:Mo) (sl g:Int) (k q:Nat):Prop where
 hc:chk m=0
 ha:asked m sl g=0
 hsl:sl=(k:Int)
 hk:k<16
 hown:own m sl=q
 hq:q<m.objs.length
 hM:freeM m sl g=⟨m.types,(m.objs.map (lowO m q)).eraseIdx q,(m.slots.set k ⟨g,false,0⟩).map (lowS q)⟩
 hg:0≤g∧g≤2147483647
 idle:∀i,i<m.objs.length→i≠q→∀j,j<(ob m i).fs.length→((ty m.types (ob m i)).getD j 0).toNat=3→((ob m i).fs.getD j 0).toNat≠q+1
 free:∀s∈m.slots.set k ⟨g,false,0⟩,SlOk m.objs.length s∧(s.used=true→s.at_≠(q:Int))
theorem Fr.of {m:Mo} {sl g:Int} (h:freeE m sl g=0):∃k q,Fr m sl g k q:=by
 have h0:=h;unfold freeE at h;split at h;case isFalse ha=>exact absurd h ha
 case isTrue ha=>
 split at h;case isTrue=>omega
 case isFalse hb=>
 obtain ⟨hc,_,k,s,n,o,t,rfl,hk,hs,hu,hg,hso,hat,hown,ho,hob,hoo,_⟩:=asked_ok ha;have c:=chk_ok hc;have hg2:=hso.1;rw [hg] at hg2;rw [hown] at hb;refine ⟨k,n,hc,ha,rfl,hk,hown,(List.getElem?_eq_some_iff.1 ho).1,by rw [freeM,if_pos h0,hown,Int.toNat_natCast],hg2,fun i hi hne j hj h3 e=>hb (.inr ⟨i,hi,hne,j,hj,h3,e⟩),fun s2 hs2=>?_⟩
 obtain ⟨i,hi⟩:=List.getElem?_of_mem hs2;by_cases e:k=i
 ·subst e;rw [List.getElem?_set_self (by rw [c.2.2.1];exact hk)] at hi;injection hi with hi
  subst hi;exact ⟨⟨hg2,fun _=>rfl,fun e=>by cases e⟩,fun e=>by cases e⟩
 ·rw [List.getElem?_set_ne e] at hi;refine ⟨c.2.2.2.2.2 s2 (List.mem_of_getElem? hi),fun hu2 e2=>hb (.inl ⟨i,(List.getElem?_eq_some_iff.1 hi).1,by omega,?_,?_⟩)⟩
  ·rw [List.getD_eq_getElem?_getD,hi];exact hu2
  ·rw [List.getD_eq_getElem?_getD,hi];exact e2
section
variable {m:Mo} {sl g:Int} {k q:Nat} (h:Fr m sl g k q)
include h
theorem Fr.len:(freeM m sl g).objs.length=m.objs.length-1:=by
 rw [h.hM]
 show (List.eraseIdx _ q).length=_;rw [List.length_eraseIdx_of_lt (by rw [List.length_map];exact h.hq),List.length_map]
theorem Fr.ob {w:Nat} (hw:w<m.objs.length-1):L20.ob (freeM m sl g) w=lowO m q (L20.ob m (sk q w)):=by
 have hs:=sk_lt (q:=q) hw;rw [h.hM,L20.ob,List.getD_eq_getElem?_getD]
 show ((List.eraseIdx _ q)[w]?).getD _=_;have e:(List.eraseIdx (m.objs.map (lowO m q)) q)[w]?=(m.objs.map (lowO m q))[sk q w]?:=by
  rw [List.getElem?_eraseIdx];unfold sk;split <;> rfl
 rw [e,List.getElem?_map,ob_eq hs];rfl
theorem Fr.chk:L20.chk (freeM m sl g)=0:=by
 have c:=chk_ok h.hc;have hl:=h.len;have hq:=h.hq;have hT:(freeM m sl g).types=m.types:=by rw [h.hM]
 have hS:(freeM m sl g).slots=(m.slots.set k ⟨g,false,0⟩).map (lowS q):=by rw [h.hM]
 refine chk_zero (by rw [hT,hl];omega) ⟨by rw [hS,List.length_map,List.length_set];exact c.2.2.1,by rw [hT];exact c.2.2.2.1,fun o ho=>?_,fun s hs=>?_⟩
 ·obtain ⟨w,hw⟩:=List.getElem?_of_mem ho;have hwl:=(List.getElem?_eq_some_iff.1 hw).1;rw [hl] at hwl;have hsk:=sk_lt (q:=q) hwl;have e:=h.ob hwl;rw [L20.ob,List.getD_eq_getElem?_getD,hw,Option.getD_some] at e;rw [hT,hl,e]
  have hoo:=ob_ok h.hc hsk;refine ⟨hoo.1,by rw [lowO_len];exact hoo.2.1,fun j hj=>?_⟩
  rw [lowO_len] at hj;rw [lowO_get hj]
  show FdOk _ ((ty m.types (L20.ob m (sk q w))).getD j 0) _;have hfd:=hoo.2.2 j hj;by_cases h3:((ty m.types (L20.ob m (sk q w))).getD j 0).toNat=3∧0<((L20.ob m (sk q w)).fs.getD j 0).toNat
  ·refine ⟨fun e=>by omega,fun _=>?_⟩
   rw [lowV_ref h3.1 h3.2]
   have h4:=hfd.2 h3.1;have h5:=h.idle _ hsk (sk_ne q w) j hj h3.1
   have:=lo_lt (q:=q) (j:=((L20.ob m (sk q w)).fs.getD j 0).toNat-1) (N:=m.objs.length) (by omega) hq (by omega)
   omega
  ·rw [lowV_other h3]
   exact ⟨hfd.1,fun e=>by have:=fun h0=>h3 ⟨e,h0⟩;omega⟩
 ·rw [hS] at hs;obtain ⟨s0,hs0,rfl⟩:=List.mem_map.1 hs;obtain ⟨a1,a2⟩:=h.free s0 hs0;rw [hl]
  unfold lowS;by_cases hu:s0.used=true
  ·rw [if_pos hu]
   obtain ⟨b1,b2,b3⟩:=a1.2.2 hu;obtain ⟨a,ha⟩:=Int.eq_ofNat_of_zero_le b2;have hne:=a2 hu;rw [ha] at hne b3 ⊢;rw [lowA_nat]
   have:=lo_lt (q:=q) (j:=a) (N:=m.objs.length) (by omega) hq (by omega)
   exact ⟨a1.1,fun e=>(by cases e),fun _=>⟨b1,by show (0:Int)≤((lo q a:Nat):Int);omega,by show ((lo q a:Nat):Int)<_;omega⟩⟩
  ·rw [if_neg hu]
   exact ⟨a1.1,a1.2.1,fun e=>absurd e hu⟩
end
theorem Iso.busy {f:Nat→Nat} {m n:Mo} (h:Iso f m n) {sl g:Int} (ha:L20.asked m sl g=0):Busy n sl (L20.own n sl)↔Busy m sl (L20.own m sl):=by
 obtain ⟨e,hlt⟩:=h.own ha;have hl:=h.len;have h960:=(chk_ok h.cm).2.1;have c:=chk_ok h.cm;rw [e]
 refine or_congr ⟨?_,?_⟩ ⟨?_,?_⟩
 ·rintro ⟨i,hi,hne,hu,ha⟩
  rw [h.sls,mvS_getD] at hu ha;rw [h.sls,List.length_map] at hi;rw [(mvS_ug f _).1] at hu;rw [mvS_at hu] at ha;refine ⟨i,hi,hne,hu,?_⟩
  have hs:m.slots.getD i .none∈m.slots:=by rw [List.getD_eq_getElem?_getD,List.getElem?_eq_getElem hi];exact List.getElem_mem hi
  have:=(c.2.2.2.2.2 _ hs).2.2 hu
  have:=h.inj _ _ (by omega) hlt (by omega:f (m.slots.getD i .none).at_.toNat=f (L20.own m sl))
  omega
 ·rintro ⟨i,hi,hne,hu,ha⟩
  refine ⟨i,by rw [h.sls,List.length_map];exact hi,hne,by rw [h.sls,mvS_getD,(mvS_ug f _).1];exact hu,?_⟩
  rw [h.sls,mvS_getD,mvS_at hu,ha,Int.toNat_natCast]
 ·rintro ⟨i,hi,hne,j,hj,hr⟩
  rw [hl] at hi;obtain ⟨i0,hi0,rfl⟩:∃i0,i0<m.objs.length∧f i0=i:=by
   have hR:Ren m.objs.length ((List.range m.objs.length).map fun i=>((f i:Nat):Int)):=by
    have hg:∀(a:Nat) x,((List.range m.objs.length).map fun i=>((f i:Nat):Int))[a]?=some x→a<m.objs.length∧x=(f a:Nat):=fun a x hx=>by
     rw [List.getElem?_map] at hx;rcases Nat.lt_or_ge a m.objs.length with h | h
     ·rw [List.getElem?_range h] at hx;injection hx with hx;exact ⟨h,hx.symm⟩
     ·rw [List.getElem?_eq_none (by simpa using h)] at hx;cases hx
    exact ⟨by simp,fun a x hx=>by obtain ⟨h1,rfl⟩:=hg a x hx;have:=h.lt a h1;omega,fun a b x hx hy=>by obtain ⟨h1,e1⟩:=hg a x hx;obtain ⟨h2,e2⟩:=hg b x hy;exact h.inj a b h1 h2 (by omega)⟩
   obtain ⟨k,hk,e⟩:=hR.sur hi;rw [List.getElem?_map,List.getElem?_range hk] at e;injection e with e
   have e2:((f k:Nat):Int)=(i:Int):=e;exact ⟨k,hk,by omega⟩
  obtain ⟨hr1,hr2⟩:=hr;rw [h.obs _ hi0] at hr1 hr2 hj;rw [mvO_len] at hj;rw [h.tys,mvO_ty] at hr1;rw [mvO_get hj] at hr2;refine ⟨i0,hi0,fun e=>hne (by rw [e]),j,hj,hr1,?_⟩
  have h0:0<((ob m i0).fs.getD j 0).toNat:=Nat.pos_of_ne_zero fun e0=>by
   rw [mvV_other (by omega)] at hr2;omega
  have h4:=((ob_ok h.cm hi0).2.2 j hj).2 hr1;have hf:=h.lt (((ob m i0).fs.getD j 0).toNat-1) (by omega)
  rw [mvV_ref hr1 h0 (by omega)] at hr2
  have:=h.inj _ _ (by omega) hlt (by omega:f (((ob m i0).fs.getD j 0).toNat-1)=f (L20.own m sl))
  omega
 ·rintro ⟨i,hi,hne,j,hj,hr1,hr2⟩
  refine ⟨f i,by rw [hl];exact h.lt i hi,fun e=>hne (h.inj _ _ hi hlt e),j,by rw [h.obs _ hi,mvO_len];exact hj,by rw [h.obs _ hi,h.tys,mvO_ty];exact hr1,?_⟩
  have hf:=h.lt _ hlt;rw [h.obs _ hi,mvO_get hj,mvV_ref hr1 (by omega) (by rw [hr2,Nat.add_sub_cancel];omega),hr2,Nat.add_sub_cancel]
theorem Iso.freeE {f:Nat→Nat} {m n:Mo} (h:Iso f m n) (sl g:Int):freeE n sl g=freeE m sl g:=by
 unfold L20.freeE;by_cases ha:L20.asked m sl g=0
 ·rw [if_pos ha,if_pos (by rw [h.asked];exact ha)]
  by_cases hb:Busy m sl (L20.own m sl)
  ·rw [if_pos hb,if_pos ((h.busy ha).2 hb)]
  ·rw [if_neg hb,if_neg (fun e=>hb ((h.busy ha).1 e))]
 ·rw [if_neg ha,if_neg (by rw [h.asked];exact ha),h.asked]
theorem Iso.free {f:Nat→Nat} {m n:Mo} (h:Iso f m n) {sl g:Int} (he:L20.freeE m sl g=0):∃f',Iso f' (freeM m sl g) (freeM n sl g):=by
 obtain ⟨k,q,a⟩:=Fr.of he;obtain ⟨k2,q2,b⟩:=Fr.of (m:=n) (sl:=sl) (g:=g) (by rw [h.freeE];exact he)
 obtain rfl:k2=k:=by have:=a.hsl;have:=b.hsl;omega
 obtain ⟨eo,hlt⟩:=h.own a.ha;rw [a.hown,b.hown] at eo;subst eo;have hl:=h.len;have h960:=(chk_ok h.cm).2.1;have hq:=a.hq;have hfne:∀j,j<m.objs.length→j≠q→f j≠f q:=fun j hj hne e=>hne (h.inj _ _ hj hq e)
 have hfq:=h.lt q hq;obtain ⟨f',hf'⟩:∃f':Nat→Nat,f'=fun w=>lo (f q) (f (sk q w)):=⟨_,rfl⟩
 have f1:∀j,j≠q→f' (lo q j)=lo (f q) (f j):=fun j hj=>by rw [hf'];dsimp only;rw [sk_lo hj]
 have fl:∀w,w<m.objs.length-1→f' w<m.objs.length-1:=fun w hw=>by
  rw [hf']
  exact lo_lt (h.lt _ (sk_lt hw)) hfq (hfne _ (sk_lt hw) (sk_ne q w))
 have hT:(freeM m sl g).types=m.types:=by rw [a.hM]
 have hT2:(freeM n sl g).types=m.types:=by rw [b.hM];exact h.tys
 refine ⟨f',a.chk,b.chk,by rw [a.len,b.len,hl],by rw [hT,hT2],?_,fun w hw=>?_,fun w hw=>?_,fun i j hi hj e=>?_⟩
 ·rw [a.hM,b.hM]
  show (n.slots.set k2 _).map _=((m.slots.set k2 _).map _).map _;have e:n.slots.set k2 ⟨g,false,0⟩=(m.slots.set k2 ⟨g,false,0⟩).map (mvS f):=by rw [List.map_set,h.sls];rfl
  rw [e,List.map_map,List.map_map]
  refine List.map_congr_left fun s hs=>?_;show lowS (f q) (mvS f s)=mvS f' (lowS q s)
  obtain ⟨a1,a2⟩:=a.free s hs;by_cases hu:s.used=true
  ·obtain ⟨b1,b2,b3⟩:=a1.2.2 hu;obtain ⟨x,hx⟩:=Int.eq_ofNat_of_zero_le b2;have hne:=a2 hu;rw [hx] at hne;rw [mvS,if_pos hu,lowS,if_pos rfl,lowS,if_pos hu,mvS,if_pos rfl,hx]
   show (⟨s.gen,true,lowA (f q) ((f (x:Int).toNat:Nat):Int)⟩:Sl)=⟨s.gen,true,((f' (lowA q (x:Int)).toNat:Nat):Int)⟩
   rw [Int.toNat_natCast,lowA_nat,lowA_nat,Int.toNat_natCast,f1 x (by omega)]
  ·have e1:mvS f s=s:=if_neg hu;have e2:lowS (f q) s=s:=if_neg hu;have e3:lowS q s=s:=if_neg hu;have e4:mvS f' s=s:=if_neg hu;rw [e1,e2,e3,e4]
 ·rw [a.len] at hw;have hsk:=sk_lt (q:=q) hw;have hw2:=fl w hw;have e1:sk (f q) (f' w)=f (sk q w):=by rw [hf'];exact sk_lo (hfne _ hsk (sk_ne q w))
  rw [b.ob (by rw [hl];exact hw2),e1,a.ob hw,h.obs _ hsk,hT]
  unfold lowO;rw [h.tys]
  unfold mvO;show (⟨(ob m (sk q w)).ty,_⟩:Ob)=⟨(ob m (sk q w)).ty,_⟩
  congr 1;show List.map _ (List.range (mvO f m.types (ob m (sk q w))).fs.length)=List.map _ (List.range (lowO m q (ob m (sk q w))).fs.length)
  rw [mvO_len,lowO_len]
  refine List.map_congr_left fun j hj=>?_;have hj:=List.mem_range.1 hj;show lowV (f q) ((ty m.types (ob m (sk q w))).getD j 0) ((mvO f m.types (ob m (sk q w))).fs.getD j 0)=mvV f' ((ty m.types (ob m (sk q w))).getD j 0) ((lowO m q (ob m (sk q w))).fs.getD j 0)
  rw [mvO_get hj,lowO_get hj]
  by_cases h3:((ty m.types (ob m (sk q w))).getD j 0).toNat=3∧0<((ob m (sk q w)).fs.getD j 0).toNat
  ·have h4:=((ob_ok h.cm hsk).2.2 j hj).2 h3.1;have h5:=a.idle _ hsk (sk_ne q w) j hj h3.1
   generalize (ob m (sk q w)).fs.getD j 0=v at h3 h4 h5
   have hlv:=h.lt (v.toNat-1) (by omega)
   have e2:=mvV_ref (f:=f) h3.1 h3.2 (by omega)
   have e3:=lowV_ref (q:=q) h3.1 h3.2;have h6:=f1 (v.toNat-1) (by omega)
   have h7:=lo_lt hlv hfq (hfne _ (by omega) (by omega))
   apply UInt64.toNat_inj.1;rw [lowV_ref h3.1 (by omega),e2,Nat.add_sub_cancel,mvV_ref h3.1 (by omega) (by rw [e3,Nat.add_sub_cancel,h6];omega),e3,Nat.add_sub_cancel,h6]
  ·rw [mvV_other h3,lowV_other h3,lowV_other h3,mvV_other h3]
 ·rw [a.len] at hw ⊢;exact fl w hw
 ·rw [a.len] at hi hj;rw [hf'] at e
  have:=lo_inj (hfne _ (sk_lt hi) (sk_ne q i)) (hfne _ (sk_lt hj) (sk_ne q j)) e;exact sk_inj (h.inj _ _ (sk_lt hi) (sk_lt hj) this)
end Go.Proofs.YteejianjjpdimaaGreat.L20
namespace Go.Proofs.YteejianjjpdimaaGreat.L19
open L02 L07 L13 L14 L15 L16 L18 L20
def sumE (l:List UInt64):Int:=if allErr l=0 then sumN (freeL l) else 0
theorem sum_bound:∀{F:List Hb} {j:Nat},(∀c∈F,0≤c.size∧c.size≤2000)→F.length≤j→0≤sumN F∧sumN F≤2000*j
 | [],j,_,_=>by simp only [sumN];omega
 | c :: F,j,h,hl=>by
  rw [List.length_cons] at hl;have h1:=sum_bound (F:=F) (j:=j-1) (fun c hc=>h c (List.mem_cons_of_mem _ hc)) (by omega)
  have h2:=h c List.mem_cons_self;rw [sumN];omega
theorem sumN_app:∀(A B:List Hb),sumN (A++B)=sumN A+sumN B
 | [],B=>by simp [sumN]
 | a :: A,B=>by rw [List.cons_append,sumN,sumN,sumN_app A B];omega
theorem Seg.sum {l:List UInt64} {k q:Nat} {L:List Hb} (h:Seg l k L q):(q:Int)=k+sumN L:=by
 induction h with
 | nil h=>simp [sumN]
 | cons hk hs ht ih=>rw [sumN,stand_size hs];omega
theorem sum_parts:∀{L:List Hb},(∀b∈L,b.kind=1∨b.kind=2)→sumN L=sumN (free L)+sumN (objs L)
 | [],_=>rfl
 | b :: L,h=>by
  have ih:=sum_parts (L:=L) (fun c hc=>h c (List.mem_cons_of_mem _ hc))
  rcases h b List.mem_cons_self with hb | hb
  ·have e1:free (b :: L)=free L:=by unfold free;rw [List.filter_cons_of_neg (by simp;omega)]
   have e2:objs (b :: L)=b :: objs L:=by unfold objs;rw [List.filter_cons_of_pos (by simp;omega)]
   rw [e1,e2,sumN,sumN];omega
  ·have e1:free (b :: L)=b :: free L:=by unfold free;rw [List.filter_cons_of_pos (by simp;omega)]
   have e2:objs (b :: L)=objs L:=by unfold objs;rw [List.filter_cons_of_neg (by simp;omega)]
   rw [e1,e2,sumN,sumN];omega
theorem sum_all {l:List UInt64} (h:allErr l=0):sumN (freeL l)+sumN (O19 l)=(l.length:Int)-128:=by
 have h1:=(seg_of_all h).1.sum;have h2:=sum_parts (L:=allL l) (fun b hb=>by
  obtain ⟨a,_,_,h3,h4,_⟩:=all_mem h hb
  have:=(stand_ok h3).bounds;rw [←h4] at this;exact this.2.2.2.1)
 have e1:freeL l=free (allL l):=rfl;have e2:O19 l=objs (allL l):=rfl;rw [e1,e2];omega
theorem all_pair {l:List UInt64} (h:allErr l=0):(allL l).Pairwise fun a b=>a.at_+a.size≤b.at_:=
 (chain_apart (chain_iff.1 (parsed_ok.1 (allErr_ok h).2).1)).2
theorem all_size {l:List UInt64} (h:allErr l=0) {b:Hb} (hb:b∈allL l):2≤b.size:=by
 obtain ⟨a,_,_,h3,h4,_⟩:=all_mem h hb
 have:=(stand_ok h3).bounds;rw [←h4] at this;omega
end Go.Proofs.YteejianjjpdimaaGreat.L19
namespace Go.Proofs.YteejianjjpdimaaGreat.L19
open L02 L07 L13 L14 L15 L16 L18 L20
theorem find_of {l:List UInt64} (h:allErr l=0) {b:Hb} (hb:b∈allL l):findErr l b.at_=0∧find l b.at_=b:=by
 have hf:findB (allL l) b.at_=some b:=by
  unfold findB;cases hc:(allL l).find? (fun c=>decide (c.at_=b.at_)) with
  | none=>
   rw [List.find?_eq_none] at hc
   have:=hc b hb;simp at this
  | some c=>
   have h1:=List.mem_of_find?_eq_some hc;have h2:=List.find?_some hc;have h3:c.at_=b.at_:=by simpa using h2
   have h4:=all_size h h1;have h5:=all_size h hb;rcases all_apart h h1 hb with e | e | e
   ·rw [e]
   ·omega
   ·omega
 have he:findErr l b.at_=0:=by rw [findErr,if_pos h,hf];rfl
 exact ⟨he,by rw [find,if_pos he,hf];rfl⟩
section
variable {l l':List UInt64} {q k p n c:Nat} {g0:Int} {b:Hb} {t:List UInt8} {P S:List Hb}
theorem Al.len (h:Al l q k p n c g0 b t P S l'):l'.length=l.length:=by rw [h.hl,List.length_set,putW_len]
theorem Al.res (h:Al l q k p n c g0 b t P S l'):resErr l' k (g0+1)=0∧L18.res l' k (g0+1)=(p:Int):=by
 obtain ⟨_,_,_,r',_,hs,_⟩:=h.after;have hk:(slots l')[k]?=some ⟨g0+1,true,(p:Int)⟩:=by rw [hs,List.getElem?_set_self (by rw [slots_len' h.rt.sl];exact h.hk)]
 have:=resErr_at r'.sl hk (g0+1)
 exact ⟨by rw [this.1,if_pos ⟨rfl,rfl⟩],this.2 rfl rfl⟩
theorem Al.found (h:Al l q k p n c g0 b t P S l'):findErr l' (p:Int)=0∧find l' (p:Int)=objH p n q:=by
 obtain ⟨_,_,_,r',_,_,⟨R,_,hL⟩,_⟩:=h.after;exact find_of r'.al (b:=objH p n q) (by rw [hL];simp)
theorem Al.words (h:Al l q k p n c g0 b t P S l'):sumE l'=sumE l-n∧0≤sumE l'∧sumE l≤2000:=by
 obtain ⟨_,_,_,r',_,_,_,_,e1,e2⟩:=h.after;have s0:=sum_all h.rt.al;have s1:=sum_all r'.al;rw [e1,sumN_app] at s0;rw [e2,sumN_app,sumN,h.len] at s1;have hp:∀{m:List UInt64},allErr m=0→0≤sumN (freeL m)∧0≤sumN (O19 m):=fun {m} hm=>by
  have hb:∀c∈allL m,0≤c.size∧c.size≤2000:=fun c hc=>by
   obtain ⟨a,_,_,h3,h4,_⟩:=all_mem hm hc
   have:=(stand_ok h3).bounds;rw [←h4] at this;omega
  exact ⟨(sum_bound (j:=(freeL m).length) (fun c hc=>hb c (free_mem.1 hc).1) (Nat.le_refl _)).1,(sum_bound (j:=(O19 m).length) (fun c hc=>hb c (objs_mem.1 hc).1) (Nat.le_refl _)).1⟩
 have h1:=hp h.rt.al;have h2:=hp r'.al;have h3:=h.rt.sz.2.1;rw [e1,sumN_app] at h1;have ho:(objH p n q).size=(n:Int):=rfl;rw [ho] at s1;unfold sumE;rw [if_pos r'.al,if_pos h.rt.al]
 omega
theorem Al.zero (h:Al l q k p n c g0 b t P S l'):∀i,p<i→i<p+n→l'[i]?=some 0:=fun i h1 h2=>by
 have hc:=h.hc;have hp:=h.hp;have hk:=h.hk;obtain ⟨w1,w2,w3,w4⟩:=newW_get (l:=l) (p:=p) (n:=n) (q:=q) (c:=c) (by omega) hc.1 (by omega)
 have h3:(putW l p (newW p n q c)).getD i 0=0:=w2 i h1 h2;have hlt:i<(putW l p (newW p n q c)).length:=by rw [putW_len];omega
 rw [h.hl,List.getElem?_set_ne (by omega),List.getElem?_eq_getElem hlt]
 rw [List.getD_eq_getElem?_getD,List.getElem?_eq_getElem hlt] at h3;exact congrArg some h3
end
end Go.Proofs.YteejianjjpdimaaGreat.L19
namespace Go.Proofs.YteejianjjpdimaaGreat.L19
open L02 L07 L13 L14 L15 L16 L18 L20
theorem runE_get:∀(xs:List UInt64) (a:Int) (j:Nat),(runE a xs)[j]?=xs[j]?.map fun x=>(a+(j:Int),x)
 | [],a,j=>by simp [runE]
 | x :: xs,a,0=>by simp [runE]
 | x :: xs,a,j+1=>by
  rw [runE,List.getElem?_cons_succ,runE_get xs,List.getElem?_cons_succ]
  cases xs[j]? with
  | none=>rfl
  | some y=>show some (a+1+(j:Int),y)=some (a+((j+1:Nat):Int),y);congr 2;omega
def adrE (k p j:Nat):Int:=if j=0 then 112+(k:Int) else ((p+j-1:Nat):Int)
def isO (p:Int) (b:Hb):Bool:=decide (b.kind=1) && decide (b.at_<p)
def cntF (p:Int) (L:List Hb):Nat:=(L.filter (isO p)).length
theorem cntF_app (p:Int) (A B:List Hb):cntF p (A++B)=cntF p A+cntF p B:=by unfold cntF;rw [List.filter_append,List.length_append]
theorem cntF_objs {p:Int} {L:List Hb} (h:∀b∈L,b.at_<p):cntF p L=(objs L).length:=by
 unfold cntF objs;congr 1;refine List.filter_congr fun b hb=>?_;unfold isO;rw [decide_eq_true (h b hb),Bool.and_true]
theorem cntF_none {p:Int} {L:List Hb} (h:∀b∈L,p≤b.at_):cntF p L=0:=by
 unfold cntF;rw [List.length_eq_zero_iff,List.filter_eq_nil_iff]
 intro b hb;unfold isO
 have:=h b hb;rw [decide_eq_false (by omega:¬b.at_<p),Bool.and_false];simp
theorem aiE_seen {l:List UInt64} {t:Int} (rt:Rt l) (h:aiE l t≠0):aiE l t=allE (seen l) t∨(aiE l t=20∧(allE (seen l) t=0∨allE (seen l) t=4)):=by
 have h1:next (seen l).slots=next (slots l):=next_map _ _;have h2:(seen l).types.length=(T19 l).length:=rfl;unfold aiE at h ⊢;unfold allE;rw [if_pos rt.chk] at h ⊢;rw [if_pos (seen_chk rt),h1,h2]
 by_cases h3:0≤t∧t<(T19 l).length
 ·rw [if_pos h3] at h ⊢;rw [if_pos h3]
  by_cases h4:next (slots l)=none
  ·rw [if_pos h4,if_pos h4];exact .inl rfl
  ·rw [if_neg h4] at h ⊢;rw [if_neg h4]
   by_cases h5:(takes (freeL l) (sizT (tyI l t))).isSome
   ·rw [if_pos h5] at h;exact absurd rfl h
   ·rw [if_neg h5]
    refine .inr ⟨rfl,?_⟩
    split
    ·exact .inr rfl
    ·exact .inl rfl
 ·rw [if_neg h3,if_neg h3];exact .inl rfl
section
variable {l l':List UInt64} {q k p n c:Nat} {g0:Int} {b:Hb} {t:List UInt8} {P S:List Hb}
theorem Al.small (h:Al l q k p n c g0 b t P S l'):∃N,3≤N∧N≤12∧(aiL l q).length=N∧N≤c+1∧∀j e,(aiL l q)[j]?=some e→e.1=adrE k p j:=by
 have hc:=h.hc;have hn:=h.hn2;have hl:=newW_len (p:=p) (q:=q) (c:=c) (n:=n) (by omega)
 refine ⟨(newW p n q c).length+1,?_,?_,?_,?_,?_⟩
 ·omega
 ·rw [hl];split <;> omega
 ·rw [h.hAL,List.length_cons,runE_len]
 ·rw [hl];split <;> omega
 ·intro j e he;rw [h.hAL] at he;cases j with
  | zero=>simp at he;rw [←he];rfl
  | succ j=>
   rw [List.getElem?_cons_succ,runE_get] at he;obtain ⟨x,_,hx⟩:=Option.map_eq_some_iff.1 he;rw [←hx]
   unfold adrE;rw [if_neg (by omega)]
   show (p:Int)+(j:Int)=_;omega
theorem Al.first (h:Al l q k p n c g0 b t P S l'):cntF p (allL l')=(objs P).length∧(objs P).length≤(O19 l).length∧(O19 l).length≤959:=by
 obtain ⟨_,_,_,r',_,_,⟨R,_,hL⟩,_,e1,e2⟩:=h.after;have hp:=all_pair r'.al;have hs:∀d∈allL l',2≤d.size:=fun d hd=>all_size r'.al hd;have hlen:(O19 l').length≤960:=Nat.le_trans (List.length_filter_le _ _) (all_len r'.al)
 rw [hL] at hp hs ⊢;obtain ⟨_,pb,pc⟩:=List.pairwise_append.1 hp;rw [List.append_assoc] at pb;refine ⟨?_,by rw [e1,List.length_append];omega,?_⟩
 ·rw [cntF_app,cntF_objs,cntF_none]
  ·rfl
  ·intro d hd;rw [List.append_assoc] at hd;rcases List.mem_cons.1 hd with rfl | hd
   ·exact Int.le_refl _
   ·have:=(List.pairwise_cons.1 pb).1 d hd;have h2:(objH p n q).at_=(p:Int):=rfl;have h3:(objH p n q).size=(n:Int):=rfl;omega
  ·intro d hd
   have:=pc d hd (objH p n q) (by simp)
   have h2:(objH p n q).at_=(p:Int):=rfl
   have:=hs d (by simp [hd])
   omega
 ·rw [e2,List.length_append,List.length_cons] at hlen;rw [e1,List.length_append];omega
theorem Al.hd (h:Al l q k p n c g0 b t P S l'):∃q' t',Hd l' k p (objs P).length q' (g0+1) (objH p n q) t':=by
 obtain ⟨_,_,_,r',_,hs,_,_,_,hO⟩:=h.after;exact Hd.mk2 r' h.hk (by rw [hs,List.getElem?_set_self (by rw [slots_len' h.rt.sl];exact h.hk)]) (by rw [hO,List.getElem?_append_right (Nat.le_refl _),Nat.sub_self];rfl) rfl
theorem Al.idle (h:Al l q k p n c g0 b t P S l'):fiE l' k (g0+1)=0:=by
 obtain ⟨q',t',hd⟩:=h.hd;obtain ⟨_,_,_,r',_,hs,_,hT,hO,hO'⟩:=h.after;have hcs:b.size.toNat=c:=by rw [h.hsz];rfl
 obtain ⟨l1,hl1⟩:=exq (putW l p (newW p n q c))
 obtain ⟨_,_,_,_,_,_,_,hap,hfw1,_⟩:=seen_alloc h.rt h.hL h.hbk h.hat h.hT h.hn (by rw [h.hsz];have:=h.hc;omega) (l':=l1) (by rw [hcs];exact hl1)
 have hfw:∀d∈O19 l,∀j,j<(kindsB (T19 l) d).length→fw l' d j=fw l d j:=fun d hd j hj=>by
  have:=objs_low h.rt.al d hd
  have:=h.hk;rw [←hfw1 d hd j hj,h.hl,←hl1];exact fw_set (by omega)
 unfold fiE;rw [if_pos hd.hask,if_neg]
 rw [hd.busy]
 rintro (⟨i,s,h1,h2,h3,h4⟩ | ⟨d,h1,h2,j,h3,h4,h5⟩)
 ·rw [hs,List.getElem?_set_ne (Ne.symm h1)] at h2;exact hap s.at_ (h.rt.slots s (List.mem_of_getElem? h2) h3) h4
 ·have hdm:d∈O19 l:=by
   rw [hO'] at h1;rw [hO]
   rcases List.mem_append.1 h1 with h1 | h1
   ·exact List.mem_append.2 (.inl h1)
   ·rcases List.mem_cons.1 h1 with rfl | h1
    ·exact absurd rfl h2
    ·exact List.mem_append.2 (.inr h1)
  rw [hT] at h3 h4;rw [hfw d hdm j h3] at h5;have h11:fw l d j=0∨IsObj (O19 l) (fw l d j).toNat:=h.rt.good 11 (by omega) (by omega) d hdm j h3 h4;rcases h11 with e | e
  ·rw [e] at h5;have:=h.hp;simp at h5;omega
  ·exact hap _ e h5
end
section
variable {l l':List UInt64} {q k p n c:Nat} {g0:Int} {b:Hb} {t:List UInt8} {P S:List Hb}
end
end Go.Proofs.YteejianjjpdimaaGreat.L19
