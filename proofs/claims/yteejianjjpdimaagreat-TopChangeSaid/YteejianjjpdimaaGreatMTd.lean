/- Contracts of the functions that the laws 'T' reach, part 4. No condition. -/
import Derived.Test.YteejianjjpdimaaGreatMTc
set_option linter.unusedVariables false
set_option linter.unusedSimpArgs false
set_option maxRecDepth 100000
set_option maxHeartbeats 8000000
namespace Go.Proofs.YteejianjjpdimaaGreat
section
open Go.RowKit L01 L02 L18
theorem info_slot:(Tryz.prog.info? 37).map (fun i=>(i.zero,i.size,i.bytes))=some (some (.agg #[.int .i64 0,.bool false,.int .i64 0]),3,24):=by kernel_rfl
theorem OwnS.of {w:World} {B E n:Nat} {v:Value} {xs:List Value} {L:List Sl} (h:w.ownsRow B E 3 v n xs) (hx:xs=tabL L):OwnS w B E v L:=by
 subst hx;have hn:n=L.length:=by have:=h.1;rw [tabL_len] at this;omega
 subst hn;exact h
end
section
open Go.RowKit L02 L13 L18 L20
theorem size_obj:(Tryz.prog.info? 68).map (·.size)=some 2:=by kernel_rfl
theorem info_obj:(Tryz.prog.info? 68).map (fun i=>(i.zero,i.size,i.bytes))=some (some (.agg #[.int .i64 0,.slice none 0 0]),2,32):=by kernel_rfl
def obC:List Ob→List Value→List Value
 | o :: L,x :: vs=>i64 o.ty :: x :: obC L vs
 | _,_=>[]
theorem obC_len:∀{L:List Ob} {vs:List Value},vs.length=L.length→(obC L vs).length=L.length*2
 | [],_,_=>rfl
 | o :: L,[],h=>by simp at h
 | o :: L,x :: vs,h=>by rw [obC,List.length_cons,List.length_cons,obC_len (by simpa using h),List.length_cons];omega
theorem obC_get:∀{L:List Ob} {vs:List Value} {k:Nat} {o:Ob} {x:Value},L[k]?=some o→vs[k]?=some x→(obC L vs)[k*2]?=some (i64 o.ty)∧(obC L vs)[k*2+1]?=some x
 | [],_,_,_,_,h,_=>by simp at h
 | o :: L,[],_,_,_,_,h=>by simp at h
 | o :: L,x :: vs,0,o',x',h,h'=>by simp at h h';subst h;subst h';simp [obC]
 | o :: L,x :: vs,k+1,o',x',h,h'=>by
  have:=obC_get (L:=L) (vs:=vs) (k:=k) (by simpa using h) (by simpa using h')
  rw [obC,show (k+1)*2=k*2+1+1 by omega,show k*2+1+1+1=(k*2+1)+1+1 by omega]
  simpa using this
theorem obC_snoc:∀{L:List Ob} {vs:List Value} {o:Ob} {x:Value},vs.length=L.length→obC (L++[o]) (vs++[x])=obC L vs++[i64 o.ty,x]
 | [],[],_,_,_=>rfl
 | [],x :: vs,_,_,h=>by simp at h
 | o :: L,[],_,_,h=>by simp at h
 | o :: L,x :: vs,o',x',h=>by
  rw [List.cons_append,List.cons_append,obC,obC_snoc (by simpa using h),obC];rfl
def Objs (w:World) (v:Value) (L:List Ob):Prop:=∃vs:List Value,vs.length=L.length∧Rd w 2 v L.length (obC L vs)∧∀(i:Nat) x o,vs[i]?=some x→L[i]?=some o→Words w x o.fs
def OwnO (w:World) (base:Nat) (v:Value) (L:List Ob):Prop:=∃vs:List Value,vs.length=L.length∧w.ownsRow base 68 2 v L.length (obC L vs)∧(∀(i:Nat) x o,vs[i]?=some x→L[i]?=some o→OwnW w base 42 x o.fs)∧
 ∀(i j:Nat) x y,i≠j→vs[i]?=some x→vs[j]?=some y→x.ownBlock=none∨x.ownBlock≠y.ownBlock
theorem OwnO.rd {w:World} {base:Nat} {v:Value} {L:List Ob} (h:OwnO w base v L):Objs w v L:=by
 obtain ⟨vs,h1,h2,h4,_⟩:=h;exact ⟨vs,h1,Rd.of_own h2,fun i x l h5 h6=>(h4 i x l h5 h6).rd⟩
theorem Objs.below {w w':World} {v:Value} {L:List Ob} (h:Objs w v L) (hb:Below w.heap.size w w'):Objs w' v L:=by
 obtain ⟨vs,h1,h2,h3⟩:=h;exact ⟨vs,h1,h2.below hb,fun i x l h4 h5=>(h3 i x l h4 h5).below hb⟩
theorem OwnO.below {w w':World} {base:Nat} {v:Value} {L:List Ob} (h:OwnO w base v L) (hb:Below w.heap.size w w'):OwnO w' base v L:=by
 obtain ⟨vs,h1,h2,h4,h5⟩:=h;exact ⟨vs,h1,own_below h2 hb,fun i x l h5 h6=>(h4 i x l h5 h6).below hb,h5⟩
theorem OwnO.mono {w:World} {base base':Nat} {v:Value} {L:List Ob} (h:OwnO w base v L) (hb:base'≤base):OwnO w base' v L:=by
 obtain ⟨vs,h1,h2,h4,h5⟩:=h;exact ⟨vs,h1,own_mono h2 hb,fun i x l h5 h6=>own_mono (h4 i x l h5 h6) hb,h5⟩
theorem OwnT.mono {w:World} {base base':Nat} {v:Value} {L:List (List UInt8)} (h:OwnT w base v L) (hb:base'≤base):OwnT w base' v L:=by
 obtain ⟨vs,h1,h2,h4⟩:=h;exact ⟨vs,h1,own_mono h2 hb,fun i x l h5 h6=>own_mono (h4 i x l h5 h6) hb⟩
theorem OwnO.nil (w:World) (base:Nat):OwnO w base (.slice none 0 0) []:=⟨[],rfl,World.ownsRow_nil w base _ 2,fun i x l h=>by simp at h,fun i j x y _ h=>by simp at h⟩
theorem Objs.nil (w:World):Objs w (.slice none 0 0) []:=(OwnO.nil w 0).rd
theorem Typs.nil (w:World):Typs w (.slice none 0 0) []:=(OwnT.nil w 0).rd
theorem Slots.nil (w:World):Slots w (.slice none 0 0) []:=Rd.nil w 3
theorem Objs.len {w:World} {v:Value} {L:List Ob} (h:Objs w v L):∀ty W,(Builtin.len_ #[28] ty #[v]).run Tryz.prog W=.ok (.int .i64 (L.length:Int)) W:=by
 obtain ⟨vs,h1,h2,h3⟩:=h;exact Rd.len h2 Tryz.underlying28
theorem Objs.len_le {w:World} {v:Value} {L:List Ob} (h:Objs w v L):L.length≤9223372036854775807:=by
 obtain ⟨vs,h1,h2,h3⟩:=h;exact Rd.len_le h2
theorem Slots.len {w:World} {v:Value} {L:List Sl} (h:Slots w v L):∀ty W,(Builtin.len_ #[29] ty #[v]).run Tryz.prog W=.ok (.int .i64 (L.length:Int)) W:=Rd.len h Tryz.underlying29
theorem Slots.len_le {w:World} {v:Value} {L:List Sl} (h:Slots w v L):L.length≤9223372036854775807:=Rd.len_le h
theorem Objs.at_ {w:World} {v:Value} {L:List Ob} (h:Objs w v L) {k:Nat} (hk:k<L.length):
  ∃b q x o,(∀W,(Instr.indexAt 28 v (.int .i64 (k:Int))).run Tryz.prog W=.ok (.pointer (some ⟨b,q,none⟩)) W)∧w.cell? ⟨b,q,none⟩=some (.int .i64 o.ty)∧w.cell? ⟨b,q+1,none⟩=some x∧Hid (L[k]?=some o)∧Hid (Words w x o.fs)∧b<w.heap.size:=by
 obtain ⟨vs,h1,h2,h3⟩:=h;have hv:vs[k]?=some vs[k]:=List.getElem?_eq_getElem (by omega)
 have hl:L[k]?=some L[k]:=List.getElem?_eq_getElem hk;have hix:=fun W=>Rd.ixN h2 Tryz.underlying28 size_obj hk W;obtain ⟨b,q,c,rfl,hb,hc,hcell⟩:=Rd.form h2 (by omega)
 obtain ⟨c0,c1⟩:=obC_get hl hv;exact ⟨b,q+k*2,vs[k],L[k],fun W=>hix W,hcell _ _ c0,hcell _ _ c1,hD hl,hD (h3 k _ _ hv hl),hb⟩
theorem Words.oneCell {w:World} {x:Value} {l:List UInt64} (h:Words w x l):x.oneCell'=true:=by
 obtain ⟨A,c,rfl,_⟩:=h;rfl
theorem Typs.oneCell {w:World} {x:Value} {l:List (List UInt8)} (h:Typs w x l):x.oneCell'=true:=by
 obtain ⟨_,_,⟨A,c,rfl,_⟩,_⟩:=h;rfl
theorem Objs.oneCell {w:World} {x:Value} {l:List Ob} (h:Objs w x l):x.oneCell'=true:=by
 obtain ⟨_,_,⟨A,c,rfl,_⟩,_⟩:=h;rfl
theorem Slots.oneCell {w:World} {x:Value} {l:List Sl} (h:Slots w x l):x.oneCell'=true:=by
 obtain ⟨A,c,rfl,_⟩:=h;rfl
structure Mod (w:World) (tv ov sv:Value) (m:Mo):Prop where
 t:Typs w tv m.types
 o:Objs w ov m.objs
 s:Slots w sv m.slots
structure OwnM (w:World) (base E:Nat) (tv ov sv:Value) (m:Mo):Prop where
 t:OwnT w base tv m.types
 o:OwnO w base ov m.objs
 s:OwnS w base E sv m.slots
theorem Mod.below {w w':World} {tv ov sv:Value} {m:Mo} (h:Mod w tv ov sv m) (hb:Below w.heap.size w w'):Mod w' tv ov sv m:=⟨h.t.below hb,h.o.below hb,h.s.below hb⟩
theorem OwnM.below {w w':World} {base E:Nat} {tv ov sv:Value} {m:Mo} (h:OwnM w base E tv ov sv m) (hb:Below w.heap.size w w'):OwnM w' base E tv ov sv m:=⟨h.t.below hb,h.o.below hb,h.s.below hb⟩
theorem OwnM.rd {w:World} {base E:Nat} {tv ov sv:Value} {m:Mo} (h:OwnM w base E tv ov sv m):Mod w tv ov sv m:=⟨h.t.rd,h.o.rd,h.s.rd⟩
theorem OwnM.mono {w:World} {base base' E:Nat} {tv ov sv:Value} {m:Mo} (h:OwnM w base E tv ov sv m) (hb:base'≤base):OwnM w base' E tv ov sv m:=⟨h.t.mono hb,h.o.mono hb,own_mono h.s hb⟩
theorem Mod.nil (w:World):Mod w (.slice none 0 0) (.slice none 0 0) (.slice none 0 0) .nil:=⟨Typs.nil w,Objs.nil w,Slots.nil w⟩
end
section
open Go.RowKit Go.ChangeShapes Go.WideShapes Go.ChangeAt Go.Joins Go.Deep L18 L20
section
variable {H:Type} {enc:TypeId×Value→H} {P:Program} {w:World} {base:Nat} {held:Bool} {r:Reach} {b0:Nat}
theorem words_of {spare:Nat→Bool} {t e:TypeId} {fuel:Nat} {v:Value} {y:DataW H×List MemPlace} (ht:P.underlying t=some (.slice e)) (he:P.underlying e=some (.int .u64)) (hc:P.cellsOf e=1) (hf:DataW.trod enc P w base spare held fuel t [v]=some y):∃l,Words w v l:=by
 rcases open_ints ht he hc hf with ⟨hcs,_⟩ | ⟨x,len,cap,zs,hcs,_,hl,hm,hz,_,hcell,hwz⟩
 ·simp at hcs;subst hcs;exact ⟨[],Words.nil w⟩
 ·simp at hcs;subst hcs;have hlz:len≤zs.length:=by rw [hz];split <;> omega
  obtain ⟨l,h1,h2⟩:=ex_words (zs.take len) (fun n hn=>hwz n (List.mem_of_mem_take hn))
  have hll:l.length=len:=by rw [←h2,List.length_take];omega
  refine ⟨l,?_⟩
  unfold Words;rw [hll,←h1]
  refine ⟨_,cap,rfl,hl,by simpa [maxLen] using hm,by rw [List.length_map,List.length_take];omega,fun h=>(by cases h),fun hn ad e=>?_⟩
  cases e;obtain ⟨b,o,s⟩:=x;have hc0:=hcell 0 (by omega)
  have hsp:s=none:=by
   have:=World.cell?_spot hc0;simpa [Addr.add] using this
  subst hsp;refine ⟨rfl,World.block_lt_of_cell? w _ hc0,fun j u hu=>?_⟩
  have hj:j<len∧j<zs.length:=by
   have:=List.getElem?_eq_some_iff.1 hu;obtain ⟨h,_⟩:=this;rw [List.length_map,List.length_take] at h;omega
  have:=hcell j hj.2;rw [show ((⟨b,o,none⟩:Addr).add j)=⟨b,o+j,none⟩ by unfold Addr.add;split <;> simp_all] at this;rw [this]
  rw [List.getElem?_map,List.getElem?_take,if_pos hj.1,List.getElem?_eq_getElem hj.2] at hu;simp at hu;rw [←hu,List.getD_eq_getElem?_getD,List.getElem?_eq_getElem hj.2];rfl
theorem byts_of {spare:Nat→Bool} {t e:TypeId} {fuel:Nat} {v:Value} {y:DataW H×List MemPlace} (ht:P.underlying t=some (.slice e)) (he:P.underlying e=some (.int .u8)) (hc:P.cellsOf e=1) (hf:DataW.trod enc P w base spare held fuel t [v]=some y):∃l:List UInt8,Byts w v l:=by
 rcases open_ints ht he hc hf with ⟨hcs,_⟩ | ⟨x,len,cap,zs,hcs,_,hl,hm,hz,_,hcell,hwz⟩
 ·simp at hcs;subst hcs;exact ⟨[],Byts.nil w⟩
 ·simp at hcs;subst hcs;have hlz:len≤zs.length:=by rw [hz];split <;> omega
  obtain ⟨l,h1,h2⟩:=ex_byts (zs.take len) (fun n hn=>hwz n (List.mem_of_mem_take hn))
  have hll:l.length=len:=by rw [←h2,List.length_take];omega
  refine ⟨l,?_⟩
  unfold Byts;rw [hll,show l.map u8=l.map (fun x:UInt8=>Value.int .u8 x.toNat) from rfl,←h1]
  refine ⟨_,cap,rfl,hl,by simpa [maxLen] using hm,by rw [List.length_map,List.length_take];omega,fun h=>(by cases h),fun hn ad e=>?_⟩
  cases e;obtain ⟨b,o,s⟩:=x;have hc0:=hcell 0 (by omega)
  have hsp:s=none:=by
   have:=World.cell?_spot hc0;simpa [Addr.add] using this
  subst hsp;refine ⟨rfl,World.block_lt_of_cell? w _ hc0,fun j u hu=>?_⟩
  have hj:j<len∧j<zs.length:=by
   have:=List.getElem?_eq_some_iff.1 hu;obtain ⟨h,_⟩:=this;rw [List.length_map,List.length_take] at h;omega
  have:=hcell j hj.2;rw [show ((⟨b,o,none⟩:Addr).add j)=⟨b,o+j,none⟩ by unfold Addr.add;split <;> simp_all] at this;rw [this]
  rw [List.getElem?_map,List.getElem?_take,if_pos hj.1,List.getElem?_eq_getElem hj.2] at hu;simp at hu;rw [←hu,List.getD_eq_getElem?_getD,List.getElem?_eq_getElem hj.2];rfl
theorem typs_of {spare:Nat→Bool} {t e q:TypeId} {fuel:Nat} {v:Value} {y:DataW H×List MemPlace} (ht:P.underlying t=some (.slice e)) (he:P.underlying e=some (.slice q)) (hq:P.underlying q=some (.int .u8)) (ce:P.cellsOf e=1) (cq:P.cellsOf q=1)
  (hf:DataW.trod enc P w base spare held fuel t [v]=some y):∃L,Typs w v L:=by
 rcases open_slice1 ht ce hf with ⟨hcs,_⟩ | ⟨a,len,cap,m,n,V,D,Pl,hcs,_,hl,hm,hmm,_,hx⟩
 ·simp at hcs;subst hcs;exact ⟨[],[],rfl,Rd.nil w 1,fun i x l h=>by simp at h⟩
 ·simp at hcs;subst hcs;have hlm:len≤m:=by rw [hmm];split <;> omega
  have each:∀i,i<len→∃l:List UInt8,Byts w (V i) l:=fun i hi=>byts_of he hq cq (hx i (by omega)).2;obtain ⟨F,hF⟩:=choose_lt each;refine ⟨(List.range len).map F,(List.range len).map V,by simp,?_,?_⟩
  ·rw [List.length_map,List.length_range]
   refine ⟨_,cap,rfl,hl,by simpa [maxLen] using hm,by simp,fun h=>(by cases h),fun hn ad e=>?_⟩
   cases e;obtain ⟨b,o,s⟩:=a;have hc0:=(hx 0 (by omega)).1;have hsp:s=none:=by
    have:=World.cell?_spot hc0;simpa [Addr.add] using this
   subst hsp;refine ⟨rfl,World.block_lt_of_cell? w _ hc0,fun j u hu=>?_⟩
   have hj:j<len:=by
    have:=List.getElem?_eq_some_iff.1 hu;obtain ⟨h,_⟩:=this;simpa using h
   have:=(hx j (by omega)).1;rw [show ((⟨b,o,none⟩:Addr).add j)=⟨b,o+j,none⟩ by unfold Addr.add;split <;> simp_all] at this;rw [this]
   rw [List.getElem?_map,List.getElem?_range hj] at hu;simpa using hu
  ·intro i y l hy hl';have hi:i<len:=by
    have:=List.getElem?_eq_some_iff.1 hy;obtain ⟨h,_⟩:=this;simpa using h
   rw [List.getElem?_map,List.getElem?_range hi] at hy hl';simp at hy hl';subst hy hl';exact hF i hi
theorem objs_of {spare:Nat→Bool} {t e q:TypeId} {f0 f1:Field} {fuel:Nat} {v:Value} {y:DataW H×List MemPlace} (ht:P.underlying t=some (.slice e)) (he:P.underlying e=some (.struct #[f0,f1])) (ce:P.cellsOf e=2) (o0:f0.offset=0) (o1:f1.offset=1) (c0:P.cellsOf f0.type=1) (c1:P.cellsOf f1.type=1)
  (h0:P.underlying f0.type=some (.int .i64)) (h1:P.underlying f1.type=some (.slice q)) (hq:P.underlying q=some (.int .u64)) (cq:P.cellsOf q=1) (hf:DataW.trod enc P w base spare held fuel t [v]=some y):∃L,Objs w v L:=by
 rcases open_slice_pairs ht he ce o0 o1 c0 c1 hf with ⟨hcs,_⟩ | ⟨a,len,cap,m,n,V0,V1,D0,D1,P0,P1,hcs,_,hl,hm,hmm,_,hx⟩
 ·simp at hcs;subst hcs;exact ⟨[],Objs.nil w⟩
 ·simp at hcs;subst hcs;have hlm:len≤m:=by rw [hmm];split <;> omega
  have each:∀i,i<len→∃p:Int×List UInt64,V0 i=i64 p.1∧Words w (V1 i) p.2:=by
   intro i hi;obtain ⟨_,_,g0,g1⟩:=hx i (by omega)
   obtain ⟨z,e0,_,_⟩:=DataW.trod_int h0 g0;obtain ⟨l,hw⟩:=words_of h1 hq cq g1;simp at e0;exact ⟨(z,l),e0,hw⟩
  obtain ⟨F,hF⟩:=choose_lt each;have hobc:∀n,n≤len→obC ((List.range n).map fun i=>(⟨(F i).1,(F i).2⟩:Ob)) ((List.range n).map V1)=(List.range n).flatMap fun i=>[V0 i,V1 i]:=by
   intro n;induction n with
   | zero=>intro _;rfl
   | succ n ih=>
    intro hn;rw [List.range_succ,List.map_append,List.map_append,List.flatMap_append]
    rw [List.map_cons,List.map_nil,List.map_cons,List.map_nil,obC_snoc (by simp),ih (by omega)]
    simp only [List.flatMap_cons,List.flatMap_nil,List.append_nil]
    rw [(hF n (by omega)).1]
  refine ⟨(List.range len).map fun i=>(⟨(F i).1,(F i).2⟩:Ob),(List.range len).map V1,by simp,?_,?_⟩
  ·rw [List.length_map,List.length_range,hobc len (Nat.le_refl _)]
   have hfl:∀n,((List.range n).flatMap fun i=>[V0 i,V1 i]).length=n*2:=by
    intro n;induction n with
    | zero=>rfl
    | succ n ih=>rw [List.range_succ,List.flatMap_append,List.length_append,ih];simp;omega
   have hget:∀n k,k<n→((List.range n).flatMap fun i=>[V0 i,V1 i])[k*2]?=some (V0 k)∧((List.range n).flatMap fun i=>[V0 i,V1 i])[k*2+1]?=some (V1 k):=by
    intro n;induction n with
    | zero=>intro k hk;omega
    | succ n ih=>
     intro k hk;rw [List.range_succ,List.flatMap_append]
     by_cases hkn:k<n
     ·rw [List.getElem?_append_left (by rw [hfl];omega),List.getElem?_append_left (by rw [hfl];omega)]
      exact ih k hkn
     ·obtain rfl:k=n:=by omega
      rw [List.getElem?_append_right (by rw [hfl];omega),List.getElem?_append_right (by rw [hfl];omega),hfl]
      simp
   refine ⟨_,cap,rfl,hl,by simpa [maxLen] using hm,hfl len,fun h=>(by cases h),fun hn ad e=>?_⟩
   cases e;obtain ⟨b,o,s⟩:=a;have hc0:=(hx 0 (by omega)).1;have hsp:s=none:=by
    have:=World.cell?_spot hc0;simpa [Addr.add] using this
   subst hsp;refine ⟨rfl,World.block_lt_of_cell? w _ hc0,fun j u hu=>?_⟩
   have hj:j<len*2:=by
    have:=List.getElem?_eq_some_iff.1 hu;obtain ⟨h,_⟩:=this
    rwa [hfl] at h
   obtain ⟨k,rfl | rfl⟩:∃k,j=k*2∨j=k*2+1:=⟨j / 2,by omega⟩
   ·rw [(hget len k (by omega)).1] at hu
    have:=(hx k (by omega)).1;rw [show ((⟨b,o,none⟩:Addr).add (k*2))=⟨b,o+k*2,none⟩ by unfold Addr.add;split <;> simp_all] at this;rw [this];exact hu
   ·rw [(hget len k (by omega)).2] at hu
    have:=(hx k (by omega)).2.1;rw [show ((⟨b,o,none⟩:Addr).add (k*2+1))=⟨b,o+(k*2+1),none⟩ by unfold Addr.add;split <;> simp_all] at this;rw [this];exact hu
  ·intro i y l hy hl';have hi:i<len:=by
    have:=List.getElem?_eq_some_iff.1 hy;obtain ⟨h,_⟩:=this;simpa using h
   rw [List.getElem?_map,List.getElem?_range hi] at hy hl';simp at hy hl';subst hy hl';exact (hF i hi).2
theorem slots_of {spare:Nat→Bool} {t e:TypeId} {f0 f1 f2:Field} {fuel:Nat} {v:Value} {y:DataW H×List MemPlace} (ht:P.underlying t=some (.slice e)) (he:P.underlying e=some (.struct #[f0,f1,f2])) (hone:oneCellFields P #[f0,f1,f2]=true) (ce:P.cellsOf e=3)
  (h0:P.underlying f0.type=some (.int .i64)) (h1:P.underlying f1.type=some .bool) (h2:P.underlying f2.type=some (.int .i64)) (hf:DataW.trod enc P w base spare held fuel t [v]=some y):∃L,Slots w v L:=by
 rcases open_slice ht hf with ⟨hcs,_⟩ | ⟨a,len,cap,m,n,D,Pl,hcs,_,hl,hm,hmm,_,hx⟩
 ·simp at hcs;subst hcs;exact ⟨[],Slots.nil w⟩
 ·simp at hcs;subst hcs;have hlm:len≤m:=by rw [hmm];split <;> omega
  have each:∀i,i<len→∃s:Sl,w.cell? (a.add (i*3))=some (.int .i64 s.gen)∧w.cell? (a.add (i*3+1))=some (.bool s.used)∧w.cell? (a.add (i*3+2))=some (.int .i64 s.at_):=by
   intro i hi;obtain ⟨cs',g1,g2⟩:=hx i (by omega)
   rw [ce] at g1;obtain ⟨_,hlen,hcell⟩:=World.cells?_some g1;obtain ⟨y0,y1,y2,k,_,_,p0,p1,p2⟩:=trod_struct3 he g2;obtain ⟨o0,k0⟩:=hone_of hone 0 f0 rfl;obtain ⟨o1,k1⟩:=hone_of hone 1 f1 rfl;obtain ⟨o2,k2⟩:=hone_of hone 2 f2 rfl
   match cs',hlen with
   | [v0,v1,v2],_=>
    obtain ⟨z0,e0,_,_⟩:=DataW.trod_int h0 p0;obtain ⟨z1,e1,_⟩:=DataW.trod_bool h1 p1;obtain ⟨z2,e2,_,_⟩:=DataW.trod_int h2 p2;simp [o0,o1,o2,k0,k1,k2] at e0 e1 e2;subst e0 e1 e2;have q0:=hcell 0 (by omega);have q1:=hcell 1 (by omega);have q2:=hcell 2 (by omega)
    rw [add_add] at q0 q1 q2;exact ⟨⟨z0,z1,z2⟩,by simpa using q0,by simpa using q1,by simpa using q2⟩
  haveI:Inhabited Sl:=⟨.none⟩
  obtain ⟨F,hF⟩:=choose_lt each;refine ⟨(List.range len).map F,?_⟩
  unfold Slots;rw [List.length_map,List.length_range]
  refine ⟨_,cap,rfl,hl,by simpa [maxLen] using hm,by rw [tabL_len];simp,fun h=>(by cases h),fun hn ad e=>?_⟩
  cases e;obtain ⟨b,o,s⟩:=a;have hc0:=(hF 0 (by omega)).1;have hsp:s=none:=by
   have:=World.cell?_spot hc0;simpa [Addr.add] using this
  subst hsp;refine ⟨rfl,World.block_lt_of_cell? w _ hc0,fun j u hu=>?_⟩
  have hj:j<len*3:=by
   have:=List.getElem?_eq_some_iff.1 hu;obtain ⟨h,_⟩:=this;rw [tabL_len] at h;simpa using h
  obtain ⟨k,q,hq,rfl⟩:∃k q,q<3∧j=k*3+q:=⟨j / 3,j % 3,Nat.mod_lt _ (by omega),by omega⟩
  have hk:k<len:=by omega
  have hs:((List.range len).map F)[k]?=some (F k):=by rw [List.getElem?_map,List.getElem?_range hk];rfl
  rw [tabL_get _ k _ hs q hq] at hu;obtain ⟨g0,g1,g2⟩:=hF k hk;have ad:∀j,((⟨b,o,none⟩:Addr).add j)=⟨b,o+j,none⟩:=fun j=>by unfold Addr.add;split <;> simp_all
  rw [ad] at g0 g1 g2
  have:q=0∨q=1∨q=2:=by omega
  rcases this with rfl | rfl | rfl
  ·rw [Nat.add_zero,g0];simpa [slC] using hu
  ·rw [g1];simpa [slC] using hu
  ·rw [g2];simpa [slC] using hu
theorem open_model {spare:Nat→Bool} {t eT eO eS q8 q64:TypeId} {f0 f1 f2 g0 g1 k0 k1 k2:Field} {v:Value} {d:DataW H} {ps:List MemPlace} (hs:P.underlying t=some (.struct #[f0,f1,f2])) (hone:oneCellFields P #[f0,f1,f2]=true) (hC:P.cellsOf t=3)
  (hT:P.underlying f0.type=some (.slice eT)) (hT2:P.underlying eT=some (.slice q8)) (hq8:P.underlying q8=some (.int .u8)) (cT:P.cellsOf eT=1) (c8:P.cellsOf q8=1)
  (hO:P.underlying f1.type=some (.slice eO)) (hO2:P.underlying eO=some (.struct #[g0,g1])) (cO:P.cellsOf eO=2) (o0:g0.offset=0) (o1:g1.offset=1) (c0:P.cellsOf g0.type=1) (c1:P.cellsOf g1.type=1) (hg0:P.underlying g0.type=some (.int .i64)) (hg1:P.underlying g1.type=some (.slice q64)) (hq64:P.underlying q64=some (.int .u64)) (c64:P.cellsOf q64=1)
  (hS:P.underlying f2.type=some (.slice eS)) (hS2:P.underlying eS=some (.struct #[k0,k1,k2])) (hSone:oneCellFields P #[k0,k1,k2]=true) (cS:P.cellsOf eS=3) (hk0:P.underlying k0.type=some (.int .i64)) (hk1:P.underlying k1.type=some .bool) (hk2:P.underlying k2.type=some (.int .i64))
  (hv:Value.okWide P w r b0 t v) (h:DataW.Trod enc P w base spare held t v d ps):∃tv ov sv m,v=.agg #[tv,ov,sv]∧Mod w tv ov sv m:=by
 obtain ⟨v0,v1,v2,y0,y1,y2,n,rfl,_,_,h0,h1,h2⟩:=open_agg3 hs hone hC hv h;obtain ⟨T,hT'⟩:=typs_of hT hT2 hq8 cT c8 h0;obtain ⟨O,hO'⟩:=objs_of hO hO2 cO o0 o1 c0 c1 hg0 hg1 hq64 c64 h1;obtain ⟨S,hS'⟩:=slots_of hS hS2 hSone cS hk0 hk1 hk2 h2;exact ⟨v0,v1,v2,⟨T,O,S⟩,rfl,hT',hO',hS'⟩
end
end
section
open Go.RowKit L02
structure Cl where
 op:Int
 a:Int
 b:Int
 n:Int
 v:UInt64
def Cl.none:Cl:=⟨0,0,0,0,0⟩
def clL (c:Cl):List Value:=[.int .i64 c.op,.int .i64 c.a,.int .i64 c.b,.int .i64 c.n,.int .u64 c.v.toNat]
def tabC (L:List Cl):List Value:=L.flatMap clL
theorem tabC_len (L:List Cl):(tabC L).length=L.length*5:=by
 induction L with
 | nil=>rfl
 | cons s L ih=>rw [tabC,List.flatMap_cons,List.length_append,←tabC,ih];simp [clL];omega
theorem tabC_get:∀(L:List Cl) (k:Nat) (s:Cl),L[k]?=some s→∀i,i<5→(tabC L)[k*5+i]?=(clL s)[i]?
 | [],_,_,h,_,_=>by cases h
 | t :: L,0,s,h,i,hi=>by
  simp at h;subst h;rw [tabC,List.flatMap_cons,Nat.zero_mul,Nat.zero_add,List.getElem?_append_left (by simpa [clL] using hi)]
 | t :: L,k+1,s,h,i,hi=>by
  rw [tabC,List.flatMap_cons,List.getElem?_append_right (by simp [clL];omega)]
  rw [show (k+1)*5+i-(clL t).length=k*5+i by simp [clL];omega]
  exact tabC_get L k s (by simpa using h) i hi
def Cals (w:World) (v:Value) (L:List Cl):Prop:=Rd w 5 v L.length (tabC L)
theorem Cals.below {w w':World} {v:Value} {L:List Cl} (h:Cals w v L) (hb:Below w.heap.size w w'):Cals w' v L:=Rd.below h hb
theorem Cals.nil (w:World):Cals w (.slice none 0 0) []:=Rd.nil w 5
theorem size_call:(Tryz.prog.info? 44).map (·.size)=some 5:=by kernel_rfl
theorem Cals.len {w:World} {v:Value} {L:List Cl} (h:Cals w v L):∀ty W,(Builtin.len_ #[23] ty #[v]).run Tryz.prog W=.ok (.int .i64 (L.length:Int)) W:=Rd.len h Tryz.underlying23
theorem Cals.at_ {w:World} {v:Value} {L:List Cl} (h:Cals w v L) {k:Nat} (hk:k<L.length):
  ∃b o s,(∀W,(Instr.indexAt 23 v (.int .i64 (k:Int))).run Tryz.prog W=.ok (.pointer (some ⟨b,o,none⟩)) W)∧w.cell? ⟨b,o,none⟩=some (.int .i64 s.op)∧w.cell? ⟨b,o+1,none⟩=some (.int .i64 s.a)∧w.cell? ⟨b,o+2,none⟩=some (.int .i64 s.b)∧w.cell? ⟨b,o+3,none⟩=some (.int .i64 s.n)∧w.cell? ⟨b,o+4,none⟩=some (.int .u64 s.v.toNat)∧Hid (L[k]?=some s):=by
 have hix:=fun W=>Rd.ixN (P:=Tryz.prog) h Tryz.underlying23 size_call hk W;obtain ⟨b,o,c,rfl,hb,hc,hcell⟩:=Rd.form h (by omega)
 have hs:L[k]?=some L[k]:=List.getElem?_eq_getElem hk;have t0:=tabC_get L k _ hs 0 (by omega)
 have t1:=tabC_get L k _ hs 1 (by omega)
 have t2:=tabC_get L k _ hs 2 (by omega)
 have t3:=tabC_get L k _ hs 3 (by omega)
 have t4:=tabC_get L k _ hs 4 (by omega)
 exact ⟨b,o+k*5,L[k],fun W=>hix W,hcell _ _ t0,hcell _ _ t1,hcell _ _ t2,hcell _ _ t3,hcell _ _ t4,hD hs⟩
def hnL (h:Int×Int):List Value:=[.int .i64 h.1,.int .i64 h.2]
def tabH (L:List (Int×Int)):List Value:=L.flatMap hnL
theorem tabH_len (L:List (Int×Int)):(tabH L).length=L.length*2:=by
 induction L with
 | nil=>rfl
 | cons s L ih=>rw [tabH,List.flatMap_cons,List.length_append,←tabH,ih];simp [hnL];omega
theorem tabH_get:∀(L:List (Int×Int)) (k:Nat) (s:Int×Int),L[k]?=some s→∀i,i<2→(tabH L)[k*2+i]?=(hnL s)[i]?
 | [],_,_,h,_,_=>by cases h
 | t :: L,0,s,h,i,hi=>by
  simp at h;subst h;rw [tabH,List.flatMap_cons,Nat.zero_mul,Nat.zero_add,List.getElem?_append_left (by simpa [hnL] using hi)]
 | t :: L,k+1,s,h,i,hi=>by
  rw [tabH,List.flatMap_cons,List.getElem?_append_right (by simp [hnL];omega)]
  rw [show (k+1)*2+i-(hnL t).length=k*2+i by simp [hnL];omega]
  exact tabH_get L k s (by simpa using h) i hi
theorem hnL_one (s:Int×Int):∀u∈hnL s,u.oneCell'=true:=by
 intro u hu;simp [hnL] at hu;rcases hu with rfl | rfl <;> rfl
theorem tabH_snoc (L:List (Int×Int)) (s:Int×Int):tabH L++hnL s=tabH (L++[s]):=by simp [tabH,List.flatMap_append]
theorem size_hnd:(Tryz.prog.info? 39).map (·.size)=some 2:=by kernel_rfl
def Hnds (w:World) (v:Value) (L:List (Int×Int)):Prop:=Rd w 2 v L.length (tabH L)
def OwnG (w:World) (base:Nat) (v:Value) (L:List (Int×Int)):Prop:=w.ownsRow base 39 2 v L.length (tabH L)
theorem OwnG.rd {w:World} {base:Nat} {v:Value} {L:List (Int×Int)} (h:OwnG w base v L):Hnds w v L:=Rd.of_own h
theorem Hnds.below {w w':World} {v:Value} {L:List (Int×Int)} (h:Hnds w v L) (hb:Below w.heap.size w w'):Hnds w' v L:=Rd.below h hb
theorem OwnG.below {w w':World} {base:Nat} {v:Value} {L:List (Int×Int)} (h:OwnG w base v L) (hb:Below w.heap.size w w'):OwnG w' base v L:=own_below h hb
theorem OwnG.nil (w:World) (base:Nat):OwnG w base (.slice none 0 0) []:=World.ownsRow_nil w base _ 2
theorem OwnG.of {w:World} {B n:Nat} {v:Value} {xs:List Value} {L:List (Int×Int)} (h:w.ownsRow B 39 2 v n xs) (hx:xs=tabH L):OwnG w B v L:=by
 subst hx;have hn:n=L.length:=by have:=h.1;rw [tabH_len] at this;omega
 subst hn;exact h
theorem lit_hnd {w:World} {e:TypeId} {n:Nat} (s:Int×Int) (hn:w.heap.size=n):Rd (w.alloc (.cells #[.int .i64 s.1,.int .i64 s.2] e)) 2 (.slice (some ⟨n,0,none⟩) 1 1) 1 (hnL s):=by
 subst hn;exact lit_rdK (n:=1) (sz:=2) rfl (by omega)
theorem info_hnd:(Tryz.prog.info? 39).map (fun i=>(i.zero,i.size,i.bytes))=some (some (.agg #[.int .i64 0,.int .i64 0]),2,16):=by kernel_rfl
theorem Hnds.len {w:World} {v:Value} {L:List (Int×Int)} (h:Hnds w v L):∀ty W,(Builtin.len_ #[35] ty #[v]).run Tryz.prog W=.ok (.int .i64 (L.length:Int)) W:=Rd.len h Tryz.underlying35
theorem Hnds.at_ {w:World} {v:Value} {L:List (Int×Int)} (h:Hnds w v L) {k:Nat} (hk:k<L.length):
  ∃b o s,(∀W,(Instr.indexAt 35 v (.int .i64 (k:Int))).run Tryz.prog W=.ok (.pointer (some ⟨b,o,none⟩)) W)∧w.cell? ⟨b,o,none⟩=some (.int .i64 s.1)∧w.cell? ⟨b,o+1,none⟩=some (.int .i64 s.2)∧Hid (L[k]?=some s):=by
 have hix:=fun W=>Rd.ixN (P:=Tryz.prog) h Tryz.underlying35 size_hnd hk W;obtain ⟨b,o,c,rfl,hb,hc,hcell⟩:=Rd.form h (by omega)
 have hs:L[k]?=some L[k]:=List.getElem?_eq_getElem hk;have t0:=tabH_get L k _ hs 0 (by omega)
 have t1:=tabH_get L k _ hs 1 (by omega)
 exact ⟨b,o+k*2,L[k],fun W=>hix W,hcell _ _ t0,hcell _ _ t1,hD hs⟩
end
section
open Go.RowKit Go.ChangeShapes Go.WideShapes Go.ChangeAt Go.Joins Go.Deep L18 L20
section
variable {H:Type} {enc:TypeId×Value→H} {P:Program} {w:World} {base:Nat} {held:Bool} {r:Reach} {b0:Nat}
theorem trod_struct5 {spare:Nat→Bool} {t:TypeId} {f0 f1 f2 f3 f4:Field} {fuel:Nat} {cs:List Value} {x:DataW H×List MemPlace} (ht:P.underlying t=some (.struct #[f0,f1,f2,f3,f4])) (h:DataW.trod enc P w base spare held fuel t cs=some x):
  ∃y0 y1 y2 y3 y4 n,cs.length=P.cellsOf t∧DataW.trod enc P w base spare held n f0.type ((cs.drop f0.offset).take (P.cellsOf f0.type))=some y0∧DataW.trod enc P w base spare held n f1.type ((cs.drop f1.offset).take (P.cellsOf f1.type))=some y1∧
   DataW.trod enc P w base spare held n f2.type ((cs.drop f2.offset).take (P.cellsOf f2.type))=some y2∧DataW.trod enc P w base spare held n f3.type ((cs.drop f3.offset).take (P.cellsOf f3.type))=some y3∧DataW.trod enc P w base spare held n f4.type ((cs.drop f4.offset).take (P.cellsOf f4.type))=some y4:=by
 obtain ⟨xs,n,_,rfl,hl,hlen,hf⟩:=DataW.trod_struct ht h
 match xs,hlen with
 | [y0,y1,y2,y3,y4],_=>exact ⟨y0,y1,y2,y3,y4,n,hl,by simpa using hf 0 f0 rfl,by simpa using hf 1 f1 rfl,by simpa using hf 2 f2 rfl,by simpa using hf 3 f3 rfl,by simpa using hf 4 f4 rfl⟩
theorem calls_of {spare:Nat→Bool} {t e:TypeId} {f0 f1 f2 f3 f4:Field} {fuel:Nat} {v:Value} {y:DataW H×List MemPlace} (ht:P.underlying t=some (.slice e)) (he:P.underlying e=some (.struct #[f0,f1,f2,f3,f4])) (hone:oneCellFields P #[f0,f1,f2,f3,f4]=true) (ce:P.cellsOf e=5)
  (h0:P.underlying f0.type=some (.int .i64)) (h1:P.underlying f1.type=some (.int .i64)) (h2:P.underlying f2.type=some (.int .i64)) (h3:P.underlying f3.type=some (.int .i64)) (h4:P.underlying f4.type=some (.int .u64)) (hf:DataW.trod enc P w base spare held fuel t [v]=some y):∃L,Cals w v L:=by
 rcases open_slice ht hf with ⟨hcs,_⟩ | ⟨a,len,cap,m,n,D,Pl,hcs,_,hl,hm,hmm,_,hx⟩
 ·simp at hcs;subst hcs;exact ⟨[],Cals.nil w⟩
 ·simp at hcs;subst hcs;have hlm:len≤m:=by rw [hmm];split <;> omega
  have each:∀i,i<len→∃s:Cl,w.cell? (a.add (i*5))=some (.int .i64 s.op)∧w.cell? (a.add (i*5+1))=some (.int .i64 s.a)∧w.cell? (a.add (i*5+2))=some (.int .i64 s.b)∧w.cell? (a.add (i*5+3))=some (.int .i64 s.n)∧w.cell? (a.add (i*5+4))=some (.int .u64 s.v.toNat):=by
   intro i hi;obtain ⟨cs',g1,g2⟩:=hx i (by omega)
   rw [ce] at g1;obtain ⟨_,hlen,hcell⟩:=World.cells?_some g1;obtain ⟨y0,y1,y2,y3,y4,k,_,p0,p1,p2,p3,p4⟩:=trod_struct5 he g2;obtain ⟨o0,k0⟩:=hone_of hone 0 f0 rfl;obtain ⟨o1,k1⟩:=hone_of hone 1 f1 rfl;obtain ⟨o2,k2⟩:=hone_of hone 2 f2 rfl;obtain ⟨o3,k3⟩:=hone_of hone 3 f3 rfl;obtain ⟨o4,k4⟩:=hone_of hone 4 f4 rfl
   match cs',hlen with
   | [v0,v1,v2,v3,v4],_=>
    obtain ⟨z0,e0,_,_⟩:=DataW.trod_int h0 p0;obtain ⟨z1,e1,_,_⟩:=DataW.trod_int h1 p1;obtain ⟨z2,e2,_,_⟩:=DataW.trod_int h2 p2;obtain ⟨z3,e3,_,_⟩:=DataW.trod_int h3 p3;obtain ⟨z4,e4,_,b4⟩:=DataW.trod_int h4 p4;simp [o0,o1,o2,o3,o4,k0,k1,k2,k3,k4] at e0 e1 e2 e3 e4;subst e0 e1 e2 e3 e4;obtain ⟨x4,rfl⟩:=bd_u64 b4;have q0:=hcell 0 (by omega);have q1:=hcell 1 (by omega);have q2:=hcell 2 (by omega);have q3:=hcell 3 (by omega);have q4:=hcell 4 (by omega)
    rw [add_add] at q0 q1 q2 q3 q4;exact ⟨⟨z0,z1,z2,z3,x4⟩,by simpa using q0,by simpa using q1,by simpa using q2,by simpa using q3,by simpa using q4⟩
  haveI:Inhabited Cl:=⟨.none⟩
  obtain ⟨F,hF⟩:=choose_lt each;refine ⟨(List.range len).map F,?_⟩
  unfold Cals;rw [List.length_map,List.length_range]
  refine ⟨_,cap,rfl,hl,by simpa [maxLen] using hm,by rw [tabC_len];simp,fun h=>(by cases h),fun hn ad e=>?_⟩
  cases e;obtain ⟨b,o,s⟩:=a;have hc0:=(hF 0 (by omega)).1;have hsp:s=none:=by
   have:=World.cell?_spot hc0;simpa [Addr.add] using this
  subst hsp;refine ⟨rfl,World.block_lt_of_cell? w _ hc0,fun j u hu=>?_⟩
  have hj:j<len*5:=by
   have:=List.getElem?_eq_some_iff.1 hu;obtain ⟨h,_⟩:=this;rw [tabC_len] at h;simpa using h
  obtain ⟨k,q,hq,rfl⟩:∃k q,q<5∧j=k*5+q:=⟨j / 5,j % 5,Nat.mod_lt _ (by omega),by omega⟩
  have hk:k<len:=by omega
  have hs:((List.range len).map F)[k]?=some (F k):=by rw [List.getElem?_map,List.getElem?_range hk];rfl
  rw [tabC_get _ k _ hs q hq] at hu;obtain ⟨g0,g1,g2,g3,g4⟩:=hF k hk;have ad:∀j,((⟨b,o,none⟩:Addr).add j)=⟨b,o+j,none⟩:=fun j=>by unfold Addr.add;split <;> simp_all
  rw [ad] at g0 g1 g2 g3 g4
  have:q=0∨q=1∨q=2∨q=3∨q=4:=by omega
  rcases this with rfl | rfl | rfl | rfl | rfl
  ·rw [Nat.add_zero,g0];simpa [clL] using hu
  ·rw [g1];simpa [clL] using hu
  ·rw [g2];simpa [clL] using hu
  ·rw [g3];simpa [clL] using hu
  ·rw [g4];simpa [clL] using hu
theorem open_calls {spare:Nat→Bool} {t e:TypeId} {f0 f1 f2 f3 f4:Field} {v:Value} {d:DataW H} {ps:List MemPlace} (ht:P.underlying t=some (.slice e)) (he:P.underlying e=some (.struct #[f0,f1,f2,f3,f4])) (hone:oneCellFields P #[f0,f1,f2,f3,f4]=true) (ce:P.cellsOf e=5)
  (h0:P.underlying f0.type=some (.int .i64)) (h1:P.underlying f1.type=some (.int .i64)) (h2:P.underlying f2.type=some (.int .i64)) (h3:P.underlying f3.type=some (.int .i64)) (h4:P.underlying f4.type=some (.int .u64))
  (hv:Value.okWide P w r b0 t v) (h:DataW.Trod enc P w base spare held t v d ps):∃L,Cals w v L:=by
 obtain ⟨a,len,cap,rfl⟩:=okWide_slice ht hv;obtain ⟨fuel,hf⟩:=h;exact calls_of ht he hone ce h0 h1 h2 h3 h4 (by simpa [Value.cells] using hf)
theorem pairs_of {spare:Nat→Bool} {t e q:TypeId} {fuel:Nat} {v:Value} {y:DataW H×List MemPlace} (ht:P.underlying t=some (.slice e)) (he:P.underlying e=some (.array 2 q)) (hq:P.underlying q=some (.int .i64)) (cq:P.cellsOf q=1) (ce:P.cellsOf e=2)
  (hf:DataW.trod enc P w base spare held fuel t [v]=some y):∃L,Hnds w v L:=by
 rcases open_slice ht hf with ⟨hcs,_⟩ | ⟨a,len,cap,m,n,D,Pl,hcs,_,hl,hm,hmm,_,hx⟩
 ·simp at hcs;subst hcs;exact ⟨[],Rd.nil w 2⟩
 ·simp at hcs;subst hcs;have hlm:len≤m:=by rw [hmm];split <;> omega
  have each:∀i,i<len→∃s:Int×Int,w.cell? (a.add (i*2))=some (.int .i64 s.1)∧w.cell? (a.add (i*2+1))=some (.int .i64 s.2):=by
   intro i hi;obtain ⟨cs',g1,g2⟩:=hx i (by omega)
   rw [ce] at g1;obtain ⟨_,hlen,hcell⟩:=World.cells?_some g1;obtain ⟨xs,k,_,_,_,hxl,hx2⟩:=DataW.trod_array he g2
   match cs',hlen,xs,hxl with
   | [v0,v1],_,[x0,x1],_=>
    have p0:=hx2 0 (by omega)
    have p1:=hx2 1 (by omega)
    rw [cq] at p0 p1;obtain ⟨z0,e0,_,_⟩:=DataW.trod_int hq p0;obtain ⟨z1,e1,_,_⟩:=DataW.trod_int hq p1;simp at e0 e1;subst e0 e1;have q0:=hcell 0 (by omega);have q1:=hcell 1 (by omega)
    rw [add_add] at q0 q1;exact ⟨(z0,z1),by simpa using q0,by simpa using q1⟩
  obtain ⟨F,hF⟩:=choose_lt each;refine ⟨(List.range len).map F,?_⟩
  unfold Hnds;rw [List.length_map,List.length_range]
  refine ⟨_,cap,rfl,hl,by simpa [maxLen] using hm,by rw [tabH_len];simp,fun h=>(by cases h),fun hn ad e=>?_⟩
  cases e;obtain ⟨b,o,s⟩:=a;have hc0:=(hF 0 (by omega)).1;have hsp:s=none:=by
   have:=World.cell?_spot hc0;simpa [Addr.add] using this
  subst hsp;refine ⟨rfl,World.block_lt_of_cell? w _ hc0,fun j u hu=>?_⟩
  have hj:j<len*2:=by
   have:=List.getElem?_eq_some_iff.1 hu;obtain ⟨h,_⟩:=this;rw [tabH_len] at h;simpa using h
  obtain ⟨k,q,hq,rfl⟩:∃k q,q<2∧j=k*2+q:=⟨j / 2,j % 2,Nat.mod_lt _ (by omega),by omega⟩
  have hk:k<len:=by omega
  have hs:((List.range len).map F)[k]?=some (F k):=by rw [List.getElem?_map,List.getElem?_range hk];rfl
  rw [tabH_get _ k _ hs q hq] at hu;obtain ⟨g0,g1⟩:=hF k hk;have ad:∀j,((⟨b,o,none⟩:Addr).add j)=⟨b,o+j,none⟩:=fun j=>by unfold Addr.add;split <;> simp_all
  rw [ad] at g0 g1
  have:q=0∨q=1:=by omega
  rcases this with rfl | rfl
  ·rw [Nat.add_zero,g0];simpa [hnL] using hu
  ·rw [g1];simpa [hnL] using hu
theorem open_pairs {spare:Nat→Bool} {t e q:TypeId} {v:Value} {d:DataW H} {ps:List MemPlace} (ht:P.underlying t=some (.slice e)) (he:P.underlying e=some (.array 2 q)) (hq:P.underlying q=some (.int .i64)) (cq:P.cellsOf q=1) (ce:P.cellsOf e=2)
  (hv:Value.okWide P w r b0 t v) (h:DataW.Trod enc P w base spare held t v d ps):∃L,Hnds w v L:=by
 obtain ⟨a,len,cap,rfl⟩:=okWide_slice ht hv;obtain ⟨fuel,hf⟩:=h;exact pairs_of ht he hq cq ce (by simpa [Value.cells] using hf)
end
end
end Go.Proofs.YteejianjjpdimaaGreat
namespace Go.Proofs.YteejianjjpdimaaGreat.L14
open L05
structure Hb where
 at_:Int
 size:Int
 kind:Int
 ty:Int
 mark:Bool
 next:UInt64
deriving DecidableEq
def Hb.none:Hb:=⟨0,0,0,0,false,0⟩
def ObjB (b:Hb):Prop:=b.kind=1∧(0≤b.ty∧b.ty<8)∧b.size≤10
instance (b:Hb):Decidable (ObjB b):=inferInstanceAs (Decidable (_∧_∧_))
def FreeB (b:Hb):Prop:=b.kind=2∧b.ty=0∧b.mark=false∧b.size≤1920
instance (b:Hb):Decidable (FreeB b):=inferInstanceAs (Decidable (_∧_∧_∧_))
def BkOk (b:Hb):Prop:=(2≤b.size∧b.size % 2=0)∧(ObjB b∨FreeB b)
instance (b:Hb):Decidable (BkOk b):=inferInstanceAs (Decidable (_∧_))
def hErr (b:Hb):Int:=if BkOk b then 0 else 8
def mk1 (m:Bool):Nat:=if m then 1 else 0
def lowN (b:Hb):Nat:=b.kind.toNat+mk1 b.mark*256+b.ty.toNat*512+b.size.toNat*65536
def partN (x:UInt64):Nat:=(sum [x]).toNat % 4294967296
def wordN (b:Hb):Nat:=lowN b+partN (UInt64.ofNat (lowN b))*4294967296
def word (b:Hb):UInt64:=if BkOk b then UInt64.ofNat (wordN b) else 0
def told (x:UInt64):Hb:=⟨0,(x.toNat / 65536 % 65536:Nat),(x.toNat % 256:Nat),(x.toNat / 512 % 128:Nat),decide (x.toNat / 256 % 2=1),0⟩
def HdOk (x:UInt64):Prop:=BkOk (told x)∧word (told x)=x
instance (x:UInt64):Decidable (HdOk x):=inferInstanceAs (Decidable (_∧_))
def split (x:UInt64):Hb:=if HdOk x then told x else .none
def splE (x:UInt64):Int:=if HdOk x then 0 else 50
theorem hErr_ok {b:Hb} (h:BkOk b):hErr b=0:=if_pos h
theorem hErr_no {b:Hb} (h:¬BkOk b):hErr b=8:=if_neg h
theorem mk1_le (m:Bool):mk1 m≤1:=by cases m <;> decide
theorem part_lt (x:UInt64):partN x<4294967296:=Nat.mod_lt _ (by decide)
theorem BkOk.bounds {b:Hb} (h:BkOk b):2≤b.size∧b.size % 2=0∧b.size≤1920∧(b.kind=1∨b.kind=2)∧0≤b.ty∧b.ty<8:=by
 obtain ⟨⟨h1,h2⟩,h3 | h3⟩:=h
 ·obtain ⟨a,c,d⟩:=h3;exact ⟨h1,h2,by omega,.inl a,c.1,c.2⟩
 ·obtain ⟨a,c,d,e⟩:=h3;exact ⟨h1,h2,by omega,.inr a,by omega,by omega⟩
theorem lowN_lt {b:Hb} (h:BkOk b):lowN b<4294967296:=by
 have:=h.bounds
 have:=mk1_le b.mark;unfold lowN;omega
theorem wordN_lt {b:Hb} (h:BkOk b):wordN b<18446744073709551616:=by
 have h1:=lowN_lt h;have h2:=part_lt (UInt64.ofNat (lowN b))
 unfold wordN;omega
theorem word_nat {b:Hb} (h:BkOk b):(word b).toNat=wordN b:=by
 rw [word,if_pos h,UInt64.toNat_ofNat',Nat.mod_eq_of_lt (wordN_lt h)]
theorem told_word {b:Hb} (h:BkOk b):told (word b)=⟨0,b.size,b.kind,b.ty,b.mark,0⟩:=by
 obtain ⟨h1,h2,h3,h4,h5,h6⟩:=h.bounds;have hm:=mk1_le b.mark;have hn:=word_nat h;have hl:lowN b<4294967296:=lowN_lt h;have e1:(word b).toNat % 4294967296=lowN b:=by rw [hn,wordN];omega
 unfold lowN at e1;have e2:((word b).toNat / 65536 % 65536:Nat)=b.size.toNat:=by omega
 have e3:((word b).toNat % 256:Nat)=b.kind.toNat:=by omega
 have e4:((word b).toNat / 512 % 128:Nat)=b.ty.toNat:=by omega
 have e5:(word b).toNat / 256 % 2=mk1 b.mark:=by omega
 rw [told,e2,e3,e4,e5]
 obtain ⟨at_,size,kind,ty,mark,next⟩:=b;dsimp only at *;have a1:(size.toNat:Int)=size:=by omega
 have a2:(kind.toNat:Int)=kind:=by omega
 have a3:(ty.toNat:Int)=ty:=by omega
 rw [a1,a2,a3]
 cases mark <;> rfl
theorem ok_bare {b:Hb} {a:Int} {n:UInt64}:BkOk (⟨a,b.size,b.kind,b.ty,b.mark,n⟩:Hb)↔BkOk b:=Iff.rfl
theorem word_bare {b:Hb} {a:Int} {n:UInt64}:word (⟨a,b.size,b.kind,b.ty,b.mark,n⟩:Hb)=word b:=rfl
theorem hd_word {b:Hb} (h:BkOk b):HdOk (word b):=by
 have e:=told_word h;refine ⟨by rw [e];exact ok_bare.2 h,?_⟩
 rw [e];exact word_bare (b:=b)
theorem split_word {b:Hb} (h:BkOk b):split (word b)=⟨0,b.size,b.kind,b.ty,b.mark,0⟩:=by rw [split,if_pos (hd_word h),told_word h]
theorem split_ok {x:UInt64} (h:HdOk x):BkOk (split x):=by rw [split,if_pos h];exact h.1
theorem split_told {x:UInt64} (h:HdOk x):split x=told x:=if_pos h
end Go.Proofs.YteejianjjpdimaaGreat.L14
namespace Go.Proofs.YteejianjjpdimaaGreat
section
open Go.RowKit L01 L02 L05 L14
theorem HCheck_any (b:Hb) (r:Int) (hr:r=hErr b) (w:World):Calls Tryz.prog 98 #[.agg #[.int .i64 b.at_,.int .i64 b.size,.int .i64 b.kind,.int .i64 b.ty,.bool b.mark,.int .u64 b.next.toNat]] w fun e w'=>e=.returned (.int .i64 r)∧Below w.heap.size w w':=by
 have HB:=hD hr;clear hr;obtain ⟨at_,size,kind,ty,mark,next⟩:=b;dsimp only at *;cases mark;all_goals
  go_in;go_wp2;all_goals
   go_ret
   refine ⟨ret_int ?_,(Below.refl _ _).alloc (Nat.le_refl _) _⟩
   rw [HB.out]
   try simp only [Bool.not_eq_true',Bool.not_eq_false',decide_eq_true_eq,decide_eq_false_iff_not,beq_eq_false_iff_ne,beq_iff_eq,bne_iff_ne,bne_eq_false_iff_eq,ne_eq] at*
   first
   | exact (hErr_ok (by simp [BkOk,ObjB,FreeB];try omega)).symm
   | exact (hErr_no (by simp [BkOk,ObjB,FreeB];try omega)).symm
theorem mask32_any (w:World):Calls Tryz.prog 114 #[.int .i64 0,.int .i64 32] w fun e w'=>e=.returned (.int .u64 4294967295)∧w=w':=by
 go_in;go_wp2
 go_ret
 exact ⟨rfl,rfl⟩
theorem Get32_any (x:UInt64) (r:Nat) (hr:r=x.toNat % 4294967296) (w:World):Calls Tryz.prog 112 #[.int .u64 x.toNat,.int .i64 0,.int .i64 32] w fun e w'=>e=.returned (.tuple #[.int .u64 (r:Int),.int .i64 0])∧w=w':=by
 have hxl:=toNat_lt x;have e1:=and_int (a:=(x.toNat:Int)) 32 (by omega) (by omega) 4294967295 (by decide) (by omega)
 rw [show ((2 ^ 32:Nat):Int)=4294967296 from rfl] at e1;have e2:(x.toNat:Int) % 4294967296=(r:Int):=by rw [hr];omega
 have e3:=e1.trans e2;clear hr e1 e2;go_in;go_wp2_with fail;refine (mask32_any _).mono ?_;rintro e w' ⟨rfl,rfl⟩
 go_wp2
 go_ret2
 exact ⟨rfl,rfl⟩
theorem Low32_any (v:Value) (l:List UInt64) (r:Nat) (hr:r=(sum l).toNat % 4294967296) (hl:l.length≤2048) (w:World) (h:Words w v l):
  Calls Tryz.prog 108 #[v,.int .i64 32] w fun e w'=>e=.returned (.tuple #[.int .u64 (r:Int),.int .i64 0])∧Below w.heap.size w w':=by
 obtain ⟨S,hS⟩:=exq (sum l)
 rw [←hS] at hr;have GT:=hD (Get32_any S r hr)
 have HO:Hid (∀w,Words w v l→Calls Tryz.prog 104 #[v] w fun e w'=>e=.returned (.tuple #[.int .u64 S.toNat,.int .i64 0])∧Below w.heap.size w w'):=by
  rw [hS];exact hD (fun w h=>Of_any v l w h hl)
 have B:=Below.refl w.heap.size w;have H:=hD h;clear h hr hS;go_in;go_wp2_with fail;refine (HO.out _ (H.out.below B)).mono ?_;rintro e wa1 ⟨rfl,b⟩
 replace B:=B.trans (b.mono B.size);clear b;go_wp2_with fail;refine (GT.out _).mono ?_;rintro e w' ⟨rfl,rfl⟩
 go_wp2
 go_ret2
 exact ⟨rfl,B⟩
theorem lit_one {w:World} {e n:Nat} (x:UInt64) (hn:w.heap.size=n):Words (w.alloc (.cells #[.int .u64 x.toNat] e)) (.slice (some ⟨n,0,none⟩) 1 1) [x]:=by
 subst hn;exact lit_words [x] rfl rfl (by simp)
theorem sealed_any (x:UInt64) (r:Nat) (hx:x.toNat<4294967296) (hr:r=x.toNat+partN x*4294967296) (w:World):
  Calls Tryz.prog 102 #[.int .u64 x.toNat] w fun e w'=>e=.returned (.tuple #[.int .u64 (r:Int),.int .i64 0])∧Below w.heap.size w w':=by
 have B:=Below.refl w.heap.size w;obtain ⟨p,hp⟩:=exq (partN x)
 have hpl:p<4294967296:=by rw [hp];exact part_lt x
 have hp2:(sum [x]).toNat % 4294967296=p:=hp.symm;have LO:=hD (fun v w h=>Low32_any v [x] p hp2.symm (by simp) w h)
 have e1:=or_int (a:=(x.toNat:Int)) (b:=(p:Int)*4294967296) 32 p (by omega) (by simp;omega) (by omega) (by omega) (by omega)
 have e2:IntKind.u64.wrap ((p:Int)*4294967296)=(p:Int)*4294967296:=by rw [wrap_u64];omega
 rw [←hp] at hr;have HR:=hD hr;clear hp hr hp2;go_in;go_wp2_with fail;refine (LO.out _ _ (lit_one x rfl)).mono ?_;rintro e w' ⟨rfl,b⟩
 replace B:=(B.alloc B.size _).trans (b.mono (by simp))
 go_wp2
 go_ret2
 exact ⟨by rw [HR.out];congr 3,B⟩
theorem of_any (b:Hb) (hb:BkOk b) (lw:Nat) (hlw:lw=lowN b) (w:World):
  Calls Tryz.prog 101 #[.agg #[.int .i64 b.at_,.int .i64 b.size,.int .i64 b.kind,.int .i64 b.ty,.bool b.mark,.int .u64 b.next.toNat]] w fun e w'=>e=.returned (.agg #[.int .u64 (lw:Int),.int .u64 b.kind,.int .u64 b.ty,.int .u64 b.size,.int .u64 (mk1 b.mark:Nat)])∧Below w.heap.size w w':=by
 have B:=Below.refl w.heap.size w;obtain ⟨h1,h2,h3,h4,h5,h6⟩:=hb.bounds;obtain ⟨at_,size,kind,ty,mark,next⟩:=b;dsimp only at *;obtain ⟨S,rfl⟩:=Int.eq_ofNat_of_zero_le (show 0≤size by omega)
 obtain ⟨K,rfl⟩:=Int.eq_ofNat_of_zero_le (show 0≤kind by omega)
 obtain ⟨T,rfl⟩:=Int.eq_ofNat_of_zero_le h5;have w1:IntKind.u64.wrap (K:Int)=K:=by rw [wrap_u64];omega
 have w2:IntKind.u64.wrap (T:Int)=T:=by rw [wrap_u64];omega
 have w3:IntKind.u64.wrap (S:Int)=S:=by rw [wrap_u64];omega
 have w4:IntKind.u64.wrap ((T:Int)*512)=(T:Int)*512:=by rw [wrap_u64];omega
 have w5:IntKind.u64.wrap ((S:Int)*65536)=(S:Int)*65536:=by rw [wrap_u64];omega
 have HL:=hD hlw;clear hlw hb;cases mark
 ·have o1:=or_int (a:=(K:Int)) (b:=(T:Int)*512) 9 T (by omega) (by simp;omega) (by omega) (by omega) (by omega)
  have o2:=or_int (a:=(K:Int)+(T:Int)*512) (b:=(S:Int)*65536) 16 S (by omega) (by simp;omega) (by omega) (by omega) (by omega)
  have o0:=or_int (a:=(K:Int)) (b:=0) 9 0 (by omega) (by simp;omega) (by omega) (by omega) (by omega)
  rw [Int.add_zero] at o0;go_in;go_wp2;refine bodyPost_ret (v:=.agg #[.int .u64 (lw:Int),.int .u64 K,.int .u64 T,.int .u64 S,.int .u64 0]) (by simp [results,Tryz.results101,go_sem,HL.out,lowN,mk1]) rfl ⟨rfl,?_⟩
  exact bdn
 ·have o0:=or_int (a:=(K:Int)) (b:=256) 8 1 (by omega) (by simp;omega) (by omega) (by omega) (by omega)
  have o1:=or_int (a:=(K:Int)+256) (b:=(T:Int)*512) 9 T (by omega) (by simp;omega) (by omega) (by omega) (by omega)
  have o2:=or_int (a:=(K:Int)+256+(T:Int)*512) (b:=(S:Int)*65536) 16 S (by omega) (by simp;omega) (by omega) (by omega) (by omega)
  go_in;go_wp2;refine bodyPost_ret (v:=.agg #[.int .u64 (lw:Int),.int .u64 K,.int .u64 T,.int .u64 S,.int .u64 1]) (by simp [results,Tryz.results101,go_sem,HL.out,lowN,mk1]) rfl ⟨rfl,?_⟩
  exact bdn
theorem form_low (a b c d e:Int) (W:World):(Instr.field 179 (.agg #[.int .u64 a,.int .u64 b,.int .u64 c,.int .u64 d,.int .u64 e]) 0).run Tryz.prog W=.ok (.int .u64 a) W:=by kernel_rfl
theorem HWord_any (b:Hb) (v:UInt64) (r:Int) (hv:v=word b) (hr:r=hErr b) (w:World):
  Calls Tryz.prog 73 #[.agg #[.int .i64 b.at_,.int .i64 b.size,.int .i64 b.kind,.int .i64 b.ty,.bool b.mark,.int .u64 b.next.toNat]] w fun e w'=>e=.returned (.tuple #[.int .u64 v.toNat,.int .i64 r])∧Below w.heap.size w w':=by
 have B:=Below.refl w.heap.size w;have CT:=hD (HCheck_any b r hr)
 by_cases hb:BkOk b
 ·rw [hErr_ok hb] at hr;have hn:=word_nat hb;rw [←hv] at hn;have hlt:=lowN_lt hb;obtain ⟨x,hx⟩:∃x:UInt64,x=UInt64.ofNat (lowN b):=⟨_,rfl⟩
  have hxn:x.toNat=lowN b:=by rw [hx,UInt64.toNat_ofNat',Nat.mod_eq_of_lt (by omega)]
  have OT:=hD (of_any b hb x.toNat hxn)
  have ST:=hD (sealed_any x v.toNat (by omega) (by rw [hn,wordN,←hx,hxn]))
  subst hr;have hf:=fun W=>form_low (x.toNat:Int) b.kind b.ty b.size (mk1 b.mark:Nat) W;clear hv hb hn hlt hx hxn;go_in;go_upto_region 1 with (fail)
  refine wpb1 (64) (#[.int .i64 b.at_,.int .i64 b.size,.int .i64 b.kind,.int .i64 b.ty,.bool b.mark,.int .u64 b.next.toNat]) ?_;rintro wa1 ⟨g1,b⟩
  replace B:=B.trans (b.mono B.size);clear b;replace c_g1:=g1.five;go_wp2_with fail;refine (CT.out _).mono ?_;rintro e wa2 ⟨rfl,b⟩
  replace g1:=g1.below b;replace c_g1:=g1.five;replace B:=B.trans (b.mono B.size);clear b;go_wp2_with fail;refine (OT.out _).mono ?_;rintro e wa3 ⟨rfl,b⟩
  replace g1:=g1.below b;replace c_g1:=g1.five;replace B:=B.trans (b.mono B.size);clear b;go_wp2_with fail;refine (ST.out _).mono ?_;rintro e wa4 ⟨rfl,b⟩
  replace g1:=g1.below b;replace c_g1:=g1.five;replace B:=B.trans (b.mono B.size);clear b;go_wp2
  go_ret2
  exact ⟨rfl,B⟩
 ·rw [hErr_no hb] at hr;have hv0:v=0:=by rw [hv,word,if_neg hb]
  subst hr;subst hv0;clear hv hb;go_in;go_upto_region 1 with (fail)
  refine wpb1 (64) (#[.int .i64 b.at_,.int .i64 b.size,.int .i64 b.kind,.int .i64 b.ty,.bool b.mark,.int .u64 b.next.toNat]) ?_;rintro wa1 ⟨g1,b⟩
  replace B:=B.trans (b.mono B.size);clear b;replace c_g1:=g1.five;go_wp2_with fail;refine (CT.out _).mono ?_;rintro e wa2 ⟨rfl,b⟩
  replace g1:=g1.below b;replace c_g1:=g1.five;replace B:=B.trans (b.mono B.size);clear b;go_wp2
  go_ret2
  exact ⟨rfl,B⟩
theorem HSplit_any (x:UInt64) (b:Hb) (r:Int) (hb:b=split x) (hr:r=splE x) (w:World):
  Calls Tryz.prog 106 #[.int .u64 x.toNat] w fun e w'=>e=.returned (.tuple #[.agg #[.int .i64 b.at_,.int .i64 b.size,.int .i64 b.kind,.int .i64 b.ty,.bool b.mark,.int .u64 b.next.toNat],.int .i64 r])∧Below w.heap.size w w':=by
 have B:=Below.refl w.heap.size w;have hxl:=toNat_lt x;obtain ⟨t,ht⟩:=exq (told x)
 obtain ⟨v,hv⟩:=exq (word t)
 obtain ⟨e,he⟩:=exq (hErr t)
 have WT:=hD (HWord_any t v e hv he)
 have a1:=and_int (a:=(x.toNat:Int)) 8 (by omega) (by omega) 255 (by decide) (by omega)
 have a2:=and_int (a:=(x.toNat:Int) / 256) 1 (by omega) (by omega) 1 (by decide) (by omega)
 have a3:=and_int (a:=(x.toNat:Int) / 512) 7 (by omega) (by omega) 127 (by decide) (by omega)
 have a4:=and_int (a:=(x.toNat:Int) / 65536) 16 (by omega) (by omega) 65535 (by decide) (by omega)
 rw [show ((2 ^ 8:Nat):Int)=256 from rfl] at a1;rw [show ((2 ^ 1:Nat):Int)=2 from rfl] at a2;rw [show ((2 ^ 7:Nat):Int)=128 from rfl] at a3;rw [show ((2 ^ 16:Nat):Int)=65536 from rfl] at a4;have i1:IntKind.i64.wrap ((x.toNat:Int) % 256)=(x.toNat:Int) % 256:=IntWalk.i64_in _ (by omega)
 have i3:IntKind.i64.wrap ((x.toNat:Int) / 512 % 128)=(x.toNat:Int) / 512 % 128:=IntWalk.i64_in _ (by omega)
 have i4:IntKind.i64.wrap ((x.toNat:Int) / 65536 % 65536)=(x.toNat:Int) / 65536 % 65536:=IntWalk.i64_in _ (by omega)
 have t1:(x.toNat:Int) % 256=t.kind:=by rw [ht];rfl
 have t3:(x.toNat:Int) / 512 % 128=t.ty:=by rw [ht];rfl
 have t4:(x.toNat:Int) / 65536 % 65536=t.size:=by rw [ht];rfl
 have t2:((x.toNat:Int) / 256 % 2==1)=t.mark:=by
  rw [ht,Bool.eq_iff_iff,beq_iff_eq]
  show _↔decide (x.toNat / 256 % 2=1)=true;rw [decide_eq_true_iff];omega
 have t5:t.at_=0:=by rw [ht];rfl
 have t6:t.next=0:=by rw [ht];rfl
 have hcase:(e=0∧v=x∧b=t∧r=0)∨(e≠0∧b=.none∧r=50)∨(e=0∧v≠x∧b=.none∧r=50):=by
  by_cases hk:BkOk t
  ·by_cases hw:v=x
   ·have hd:HdOk x:=⟨by rw [←ht];exact hk,by rw [←ht,←hv];exact hw⟩
    exact .inl ⟨by rw [he,hErr_ok hk],hw,by rw [hb,split_told hd,ht],by rw [hr,splE,if_pos hd]⟩
   ·have hd:¬HdOk x:=fun h=>hw (by rw [hv,ht];exact h.2)
    exact .inr (.inr ⟨by rw [he,hErr_ok hk],hw,by rw [hb,split,if_neg hd],by rw [hr,splE,if_neg hd]⟩)
  ·have hd:¬HdOk x:=fun h=>hk (by rw [ht];exact h.1)
   exact .inr (.inl ⟨by rw [he,hErr_no hk];decide,by rw [hb,split,if_neg hd],by rw [hr,splE,if_neg hd]⟩)
 obtain ⟨at_,size,kind,ty,mark,next⟩:=t;dsimp only at t1 t2 t3 t4 t5 t6;subst t5;subst t6;have q1:=a1.trans t1;have q3:=a3.trans t3;have q4:=a4.trans t4;have j1:IntKind.i64.wrap kind=kind:=by rw [←t1];exact i1
 have j3:IntKind.i64.wrap ty=ty:=by rw [←t3];exact i3
 have j4:IntKind.i64.wrap size=size:=by rw [←t4];exact i4
 have WT':Hid (∀w,Calls Tryz.prog 73 #[.agg #[.int .i64 0,.int .i64 size,.int .i64 kind,.int .i64 ty,.bool mark,.int .u64 0]] w fun e_1 w'=>e_1=.returned (.tuple #[.int .u64 v.toNat,.int .i64 e])∧Below w.heap.size w w'):=WT;clear ht hv he hb hr WT a1 a3 a4 i1 i3 i4 t1 t3 t4;go_in;go_upto_region 2 with (fail)
 refine wpb11 (64) (#[.int .i64 0,.int .i64 0,.int .i64 0,.int .i64 0,.bool false,.int .u64 0]) (64) (#[.int .i64 0,.int .i64 size,.int .i64 kind,.int .i64 ty,.bool mark,.int .u64 0]) ?_;rintro wa1 ⟨g1,g2,b⟩
 replace B:=B.trans (b.mono B.size);clear b;replace c_g1:=g1.five;replace c_g2:=g2.five;go_wp2_with fail;refine (WT'.out _).mono ?_;rintro e wa2 ⟨rfl,b⟩
 replace g1:=g1.below b;replace c_g1:=g1.five;replace g2:=g2.below b;replace c_g2:=g2.five;replace B:=B.trans (b.mono B.size);clear b;rcases hcase with ⟨rfl,rfl,rfl,rfl⟩ | ⟨h1,rfl,rfl⟩ | ⟨rfl,h1,rfl,rfl⟩
 ·go_wp2;refine bodyPost_ret (v:=.tuple #[.agg #[.int .i64 0,.int .i64 size,.int .i64 kind,.int .i64 ty,.bool mark,.int .u64 0],.int .i64 0]) (by simp [results,Tryz.results106,go_sem,c_g1,c_g2]) rfl ?_;refine ⟨rfl,?_⟩
  exact bdn
 ·have n1:(e != 0)=true:=by rw [bne_iff_ne];exact h1
  go_wp2;refine bodyPost_ret (v:=.tuple #[.agg #[.int .i64 0,.int .i64 0,.int .i64 0,.int .i64 0,.bool false,.int .u64 0],.int .i64 50]) (by simp [results,Tryz.results106,go_sem,c_g1,c_g2]) rfl ?_;refine ⟨rfl,?_⟩
  exact bdn
 ·have n1:((v.toNat:Int) != (x.toNat:Int))=true:=by rw [bne_iff_ne];intro e;exact h1 (UInt64.toNat.inj (by omega))
  go_wp2;refine bodyPost_ret (v:=.tuple #[.agg #[.int .i64 0,.int .i64 0,.int .i64 0,.int .i64 0,.bool false,.int .u64 0],.int .i64 50]) (by simp [results,Tryz.results106,go_sem,c_g1,c_g2]) rfl ?_;refine ⟨rfl,?_⟩
  exact bdn
end
section
open Go.RowKit L01 L02 L05 L14
end
end Go.Proofs.YteejianjjpdimaaGreat
