/- Contracts of the functions that the laws 'T' reach, part 24. No condition. -/
import Derived.Test.YteejianjjpdimaaGreatMTw
set_option linter.unusedVariables false
set_option linter.unusedSimpArgs false
set_option maxRecDepth 100000
set_option maxHeartbeats 8000000
namespace Go.Proofs.YteejianjjpdimaaGreat
section
open Go.RowKit L02 L13 L18 L20
theorem obC_erase:∀{L:List Ob} {vs:List Value} {i:Nat},vs.length=L.length→obC (L.eraseIdx i) (vs.eraseIdx i)=(obC L vs).take (i*2)++(obC L vs).drop ((i+1)*2)
 | [],[],i,_=>by simp [obC]
 | [],_ :: _,_,h=>by simp at h
 | _ :: _,[],_,h=>by simp at h
 | o :: L,x :: vs,0,h=>by simp [obC]
 | o :: L,x :: vs,i+1,h=>by
  rw [List.eraseIdx_cons_succ,List.eraseIdx_cons_succ,obC,obC_erase (by simpa using h),obC]
  rw [show (i+1)*2=i*2+1+1 by omega,show (i+1+1)*2=(i*2+1+1)+1+1 by omega]
  simp
theorem run_clear_obj (w:World) (ty:TypeId) (b o c:Nat) (hc:∀j,j<2→(w.cell? ⟨b,o+j,none⟩).isSome=true) (hf:∀j,j<2→w.frozen? ⟨b,o+j,none⟩=false):
  (Builtin.clear_ #[28] ty #[.slice (some ⟨b,o,none⟩) 1 c]).run Tryz.prog w=.ok (.tuple #[]) (w.setCells b o [.int .i64 0,.slice none 0 0]):=by
 have hst:=run_storeCells_cells (P:=Tryz.prog) b o [.int .i64 0,.slice none 0 0] 0 w (by simpa using hc) (by simpa using hf) (by simp [Value.oneCell'])
 simp only [Nat.add_zero] at hst;obtain ⟨i,hi1,hi2,hi3,hi4⟩:=info3 info_obj;have hz:(zeroValue 68).run Tryz.prog w=.ok (.agg #[.int .i64 0,.slice none 0 0]) w:=by
  simp [zeroValue,typeInfo,hi1,hi2,go_sem]
 have hzc:(Builtin.zeroCells (Value.agg #[.int .i64 0,.slice none 0 0]).cells 1).toList=[.int .i64 0,.slice none 0 0]:=by kernel_rfl
 simp [Builtin.clear_,run_underlying Tryz.underlying28,hz,hzc,hst]
section
variable {P:Program} {ops:Array Oper} {rest:List Oper} {o:Oper} {a:Act} {Q:Exit→Act→World→Prop} {w:World}
theorem wpList_appendRoom (hgd:Region.wanted o (yielded ops a.tmps)=true) {s x:Operand} {t e:TypeId} (ho:o.op=.call { callee:=.builtin .append,args:=#[s,x],argTypes:=#[t,t] }) (ht:P.underlying t=some (.slice e)) {size:Nat} (hi:(P.info? e).map (·.size)=some size)
  {b off n cap:Nat} (hs:a.eval s=.slice (some ⟨b,off,none⟩) n cap) {ad:Addr} {m c:Nat} (news:List Value) (hx:a.eval x=.slice (some ad) m c) (hn:news.length=m*size) (hc:∀j u,news[j]?=some u→w.cell? (ad.add j)=some u) (h1:∀u∈news,u.oneCell'=true)
  (hroom:n+m≤cap) (hspare:∀j,j<news.length→(w.cell? ⟨b,off+n*size+j,none⟩).isSome=true∧w.frozen? ⟨b,off+n*size+j,none⟩=false)
  (h:wpList P ops Q rest (a.put o.dst (.slice (some ⟨b,off,none⟩) (n+m) cap)) (w.setCells b (off+n*size) news)):wpList P ops Q (o :: rest) a w:=by
 obtain ⟨i,hi',rfl⟩:=Option.map_eq_some_iff.1 hi;have hrun:=run_append_room_cells (P:=P) w t o.type e i ht hi' b off n cap ad m c news hn hc h1 hroom (fun j hj=>(hspare j hj).1) (fun j hj=>(hspare j hj).2)
 refine wpList_wanted hgd fun K hK=>?_;unfold Oper.wp;simp [execOp,ho,resolve,invoke,builtin,hs,hx,hrun,Result.andThen]
 exact hK _ _ h
end
theorem setCells_size (g:Nat):∀(l:List Value) (o:Nat) (w:World),(w.setCells g o l).heap.size=w.heap.size
 | [],_,_=>rfl
 | v :: r,o,w=>by rw [World.setCells,setCells_size g r];simp [World.setCell]
theorem setCells_os (g:Nat):∀(l:List Value) (o:Nat) (w:World),(w.setCells g o l).os=w.os∧(w.setCells g o l).tape=w.tape∧(w.setCells g o l).output=w.output
 | [],_,_=>⟨rfl,rfl,rfl⟩
 | v :: r,o,w=>by rw [World.setCells];exact setCells_os g r (o+1) _
theorem setCells_block (g:Nat) {k:Nat} (hk:k≠g):∀(l:List Value) (o:Nat) (w:World),(w.setCells g o l).heap[k]?=w.heap[k]?
 | [],_,_=>rfl
 | v :: r,o,w=>by rw [World.setCells,setCells_block g hk r];exact Below.heap_setCell w ⟨g,o,none⟩ v k hk
theorem setCells_grown (g o:Nat) (l:List Value) (w:World):w.grownBy (w.setCells g o l) (some g):=
 ⟨(setCells_os g l o w).1,(setCells_os g l o w).2.1,(setCells_os g l o w).2.2,by rw [setCells_size];exact Nat.le_refl _,fun k hk hne=>setCells_block g (by intro e;exact hne (by rw [e])) l o w⟩
theorem Delete_any (g n cap i j B:Nat) (xs:List Value) (hj:j=i+1) (hi:i<n) (hn:n≤1000) (w:World) (h:w.ownsRow B 68 2 (.slice (some ⟨g,0,none⟩) n cap) n xs) (h1:∀u∈xs,u.oneCell'=true):
  Calls Tryz.prog 75 #[.slice (some ⟨g,0,none⟩) n cap,.int .i64 i,.int .i64 j] w fun e w'=>e=.returned (.slice (some ⟨g,0,none⟩) (n-1:Nat) cap)∧
   w'.ownsRow B 68 2 (.slice (some ⟨g,0,none⟩) (n-1) cap) (n-1) (xs.take (i*2)++xs.drop ((i+1)*2))∧w.grownBy w' (some g):=by
 obtain ⟨g',cap',cur,hv,hB,hg,hnc,hcm,hcs,htk⟩:=own_form h (by omega)
 injection hv with e1 e2 e3;injection e1 with e1;injection e1 with e1;subst e1;subst e3
 have hxl:=h.1;obtain ⟨news,hnews⟩:=exq (xs.drop ((i+1)*2))
 have hnl:news.length=(n-j)*2:=by rw [hnews,List.length_drop,hxl];omega
 have hcell:∀(k:Nat) u,xs[k]?=some u→w.cell? ⟨g,k,none⟩=some u:=fun k u hu=>by
  rw [blk_cell hg]
  rw [←htk,List.getElem?_take] at hu;split at hu
  ·simpa using hu
  ·cases hu
 obtain ⟨A,hA,hsrc⟩:∃A:Addr,(if cap=j then some (⟨g,0,none⟩:Addr) else some ⟨g,j*2,none⟩)=some A∧∀t u,news[t]?=some u→w.drew.cell? (A.add t)=some u:=by
  by_cases hc:cap=j
  ·refine ⟨⟨g,0,none⟩,by simp [hc],fun t u hu=>?_⟩
   have h0:news.length=0:=by rw [hnl];omega
   rw [List.length_eq_zero_iff.1 h0] at hu;simp at hu
  ·refine ⟨⟨g,j*2,none⟩,by simp [hc],fun t u hu=>?_⟩
   rw [hnews,List.getElem?_drop] at hu;rw [Addr.add_lit]
   have:=hcell _ u hu;rw [hj];exact this
 have hone:∀u∈news,u.oneCell'=true:=fun u hu=>h1 u (by rw [hnews] at hu;exact List.mem_of_mem_drop hu)
 have hspare:∀t,t<news.length→(w.drew.cell? ⟨g,0+i*2+t,none⟩).isSome=true∧w.drew.frozen? ⟨g,0+i*2+t,none⟩=false:=fun t ht=>by
  refine ⟨?_,blk_free (w:=w.drew) hg _⟩
  have:=blk_cell (w:=w.drew) hg (0+i*2+t)
  rw [this,Array.getElem?_eq_getElem (by rw [hcs,hnl] at *;omega)];rfl
 obtain ⟨W1,hW1⟩:=exq (w.drew.setCells g (0+i*2) news)
 have hg1:Bx W1 g 68 (putL cur (0+i*2) news):=by rw [hW1];exact Bx.setCells news (0+i*2) (show Bx w.drew g _ cur from hg)
 have hsz1:(putL cur (0+i*2) news).size=cap*2:=by rw [putL_size];exact hcs
 have hcl:=run_clear_obj W1 0 g ((n-1)*2) (cap-(n-1)) (fun k hk=>by rw [hg1.cell,Array.getElem?_eq_getElem (by rw [hsz1];omega)];rfl) (fun k hk=>hg1.free _)
 obtain ⟨W2,hW2⟩:=exq (W1.setCells g ((n-1)*2) [.int .i64 0,.slice none 0 0])
 rw [←hW2] at hcl;have hg2:Bx W2 g 68 (putL (putL cur (0+i*2) news) ((n-1)*2) [.int .i64 0,.slice none 0 0]):=by rw [hW2];exact hg1.setCells _ _
 have HFIN:=hD (show W2.ownsRow B 68 2 (.slice (some ⟨g,0,none⟩) (n-1) cap) (n-1) (xs.take (i*2)++xs.drop ((i+1)*2))∧w.grownBy W2 (some g) from by
  refine ⟨⟨by rw [List.length_append,List.length_take,List.length_drop,hxl];omega,.inr ⟨g,cap,_,rfl,hB,hg2,by omega,hcm,by rw [putL_size];exact hsz1,?_⟩⟩,?_⟩
  ·apply List.ext_getElem?;intro k;rw [List.getElem?_take]
   split
   ·rename_i hk;rw [Array.getElem?_toList,putL_get _ _ _ _ (by rw [hsz1];simp;omega),if_neg (by omega),putL_get _ _ _ _ (by rw [hnl,hcs];omega)]
    by_cases hki:k<i*2
    ·rw [if_neg (by omega),List.getElem?_append_left (by rw [List.length_take,hxl];omega),List.getElem?_take,if_pos hki,←htk,List.getElem?_take,if_pos (by omega),Array.getElem?_toList]
    ·rw [if_pos (by rw [hnl];omega),List.getElem?_append_right (by rw [List.length_take,hxl];omega),hnews,List.length_take,hxl]
     congr 1;omega
   ·rename_i hk;rw [List.getElem?_eq_none (by rw [List.length_append,List.length_take,List.length_drop,hxl];omega)]
  ·have k1:=setCells_grown g (0+i*2) news w.drew;have k2:=setCells_grown g ((n-1)*2) [.int .i64 0,.slice none 0 0] W1;rw [←hW1] at k1;rw [←hW2] at k2;exact ⟨k2.os.trans k1.os,k2.tape.trans k1.tape,k2.output.trans k1.output,Nat.le_trans k1.size k2.size,fun k hk hne=>(k2.block k (Nat.lt_of_lt_of_le hk k1.size) hne).trans (k1.block k hk hne)⟩)
 have HA:=hD (And.intro hA (And.intro hsrc (And.intro hone (And.intro hspare (And.intro hnl (And.intro hW1 hj))))))
 have hb1:i≤cap:=by omega
 have hb2:j≤cap:=by omega
 have hb3:i≤j:=by omega
 have hb4:j≤n:=by omega
 have hne:((i:Int)==(j:Int))=false:=by rw [beq_eq_false_iff_ne];omega
 clear hW2 hg2 hW1 hg1 hsz1 hspare hone hsrc hcell hnl hnews htk hcs hcm hg hB h hxl h1 hj;go_in;go_upto_region 5 with (fail)
 refine wp_region_qtail 6 (by kernel_rfl) (by kernel_rfl) ?_;simp only [List.take_succ_cons,List.take_zero,List.drop_succ_cons,List.drop_zero]
 iterate 6 (go_big_quiet_step (fail))
 refine wpQuiet_nil ?_;refine wpList_appendRoom (by rfl) (s:=.tmp 22) (x:=.tmp 25) rfl Tryz.underlying28 size_obj (b:=g) (off:=0) (n:=i) (cap:=cap) (by rfl) (ad:=A) (m:=n-j) (c:=cap-j) news (by rw [←HA.out.1];rfl) HA.out.2.2.2.2.1 HA.out.2.1 HA.out.2.2.1 (by omega) HA.out.2.2.2.1 ?_;rw [←HA.out.2.2.2.2.2.1]
 have hij:i+(n-j)=n-1:=by have:=HA.out.2.2.2.2.2.2;omega
 rw [hij]
 simp only [Act.put,List.setIfInBounds_toArray,List.set_cons_zero,List.set_cons_succ]
 obtain ⟨n1,hn1⟩:=exq (n-1)
 rw [←hn1] at hcl ⊢;have hc1:¬cap=n1:=by omega
 have hc2:n-n1=1:=by omega
 have hc3:n1≤n:=by omega
 have hc4:n≤cap:=hnc;have HN:=hD hn1;clear hij hn1 hne hb1 hb2 hb3 hb4 hi;go_wp2
 go_ret
 rw [←HN.out] at HFIN ⊢;exact ⟨rfl,HFIN.out⟩
theorem OwnO.erase {w:World} {B g n cap:Nat} {L:List Ob} (h:OwnO w B (.slice (some ⟨g,0,none⟩) n cap) L) {i:Nat} (hi:i<L.length) (hn:L.length≤1000):
  n=L.length∧∃xs,w.ownsRow B 68 2 (.slice (some ⟨g,0,none⟩) n cap) n xs∧(∀u∈xs,u.oneCell'=true)∧∀W,w.grownBy W (some g)→W.ownsRow B 68 2 (.slice (some ⟨g,0,none⟩) (n-1) cap) (n-1) (xs.take (i*2)++xs.drop ((i+1)*2))→OwnO W B (.slice (some ⟨g,0,none⟩) (n-1) cap) (L.eraseIdx i):=by
 obtain ⟨vs,h1,h2,h4,h5⟩:=h;obtain ⟨g',cap',cur,hv,_⟩:=own_form h2 (by omega)
 injection hv with e1 e2 e3
 subst e2;refine ⟨rfl,_,h2,?_,fun W hg ho=>⟨vs.eraseIdx i,?_,?_,?_,?_⟩⟩
 ·intro u hu
  have:∀(L:List Ob) (vs:List Value),(∀x∈vs,x.oneCell'=true)→∀u∈obC L vs,u.oneCell'=true:=by
   intro L;induction L with
   | nil=>intro vs _ u hu;simp [obC] at hu
   | cons o L ih=>
    intro vs hvs u hu;cases vs with
    | nil=>simp [obC] at hu
    | cons x vs=>
     rw [obC] at hu;rcases List.mem_cons.1 hu with h | h
     ·rw [h];rfl
     ·rcases List.mem_cons.1 h with h | h
      ·rw [h];exact hvs x List.mem_cons_self
      ·exact ih vs (fun y hy=>hvs y (List.mem_cons_of_mem _ hy)) u h
  refine this L vs (fun x hx=>?_) u hu;obtain ⟨k,hk⟩:=List.mem_iff_getElem?.1 hx;have hkl:k<L.length:=by rw [←h1];exact (List.getElem?_eq_some_iff.1 hk).1
  exact (h4 k x _ hk (List.getElem?_eq_getElem hkl)).rd.oneCell
 ·rw [List.length_eraseIdx_of_lt (by omega),List.length_eraseIdx_of_lt hi,h1]
 ·rw [List.length_eraseIdx_of_lt hi,obC_erase h1];exact ho
 ·intro k x o hx ho2;rw [List.getElem?_eraseIdx] at hx ho2;split at hx
  ·rename_i hk;rw [if_pos hk] at ho2
   have:=h4 k x o hx ho2;exact World.ownsRow.kept this hg (own_unlike this h2 (by decide))
  ·rename_i hk;rw [if_neg hk] at ho2
   have:=h4 _ x o hx ho2;exact World.ownsRow.kept this hg (own_unlike this h2 (by decide))
 ·intro a b x y hab hx hy;rw [List.getElem?_eraseIdx] at hx hy;split at hx <;> split at hy <;> exact h5 _ _ x y (by omega) hx hy
end
section
open Go.RowKit L02 L13 L18 L20
theorem OwnF.ne_bx {w:World} {base n gf p:Nat} {v:Value} {L:List Ob} {t:TypeId} {cs:Array Value} (h:OwnF w base v L n gf) (ho:n<L.length) (hg:Bx w p t cs) (hne:42≠t):gf≠p:=by
 obtain ⟨vs,nf,cf,h1,h2,h4,h5,h6⟩:=h;exact own_ne_bx (h4 n _ _ h6 (List.getElem?_eq_getElem ho)) hg hne
theorem rough_chk {m:Mo} (h:chk m=0) (S:List Sl):Rough ⟨m.types,m.objs,S⟩:=by
 obtain ⟨h1,h2,h3⟩:=chk_ok h;refine ⟨by show m.objs.length≤1000;omega,fun o ho=>⟨(h3.2.2.1 o ho).1,(h3.2.2.1 o ho).2.1,?_⟩⟩
 exact (small_chk h).2.2.2.2 o ho
theorem low_cases (n:Nat) (s:Sl):(s.used=false∨(s.used=true∧(s.at_==(n:Int))=true∧decide ((n:Int)<s.at_)=false)∨(s.used=true∧(s.at_==(n:Int))=false∧decide ((n:Int)<s.at_)=false))∨(s.used=true∧(s.at_==(n:Int))=false∧decide ((n:Int)<s.at_)=true):=by
 cases hu:s.used
 ·exact .inl (.inl rfl)
 ·by_cases h1:s.at_=n
  ·exact .inl (.inr (.inl ⟨rfl,by rw [beq_iff_eq];exact h1,by rw [decide_eq_false_iff_not];omega⟩))
  ·by_cases h2:(n:Int)<s.at_
   ·exact .inr ⟨rfl,by rw [beq_eq_false_iff_ne];exact h1,by rw [decide_eq_true_iff];exact h2⟩
   ·exact .inl (.inr (.inr ⟨rfl,by rw [beq_eq_false_iff_ne];exact h1,by rw [decide_eq_false_iff_not];exact h2⟩))
theorem low_same {n:Nat} {s:Sl} (h:s.used=false∨decide ((n:Int)<s.at_)=false):lowS n s=s:=by
 rw [lowS]
 split
 ·rename_i hu;rcases h with h | h
  ·rw [h] at hu;cases hu
  ·rw [decide_eq_false_iff_not] at h;rw [lowA,if_neg h,←hu]
 ·rfl
theorem low_less {n:Nat} {s:Sl} (hu:s.used=true) (h:decide ((n:Int)<s.at_)=true):lowS n s=⟨s.gen,s.used,s.at_-1⟩:=by
 rw [lowS,if_pos hu,lowA,if_pos (by rw [decide_eq_true_iff] at h;exact h),hu]
theorem free_step {m m2 m':Mo} {S1:List Sl} {w wr W:World} {n i n' gf b1 p6 pb z:Nat} {t o s:Value} {r3c r4c:Array Value} {b:Bool} {X:Prop} (hm2:m2=⟨m.types,m.objs,S1.map (lowS n')⟩) (hn:n<m2.objs.length) (hi:i<(ob m2 n).fs.length) (hk3:((ty m2.types (ob m2 n)).getD i 0).toNat=3) (hn1:n'≤1000) (hz:z≤pb)
  (omW:OwnM W b1 37 t o s m') (ofW:OwnF W b1 o m'.objs n gf) (a1:m'=mapP (lowV n') m2 n i) (a2:b=true↔X∨refTo m n' n i) (a3:Bx W z 31 r3c) (a4:Bx W p6 31 r4c) (a5:Bx W (p6+1) 3 #[.int .i64 n']) (a6:Bx W pb 4 #[.bool b]) (a7:Below w.heap.size w W)
  (hpbw:w.heap.size≤pb) (hp7:p6+1<pb) (hpz:pb<wr.heap.size) (hb1:w.heap.size≤b1):
  Calls Tryz.prog 74 (#[]++(#[.int .i64 n,.pointer (some ⟨gf,i,none⟩)]++#[.pointer (some ⟨pb,0,none⟩),.pointer (some ⟨p6+1,0,none⟩)])) W fun e W'=>e=.returned (.tuple #[])∧∃m'',Like m2 m''∧OwnM W' b1 37 t o s m''∧OwnF W' b1 o m''.objs n gf∧
   (m''=mapP (lowV n') m2 n (i+1)∧∃b:Bool,(b=true↔X∨refTo m n' n (i+1))∧Bx W' z 31 r3c∧Bx W' p6 31 r4c∧Bx W' (p6+1) 3 #[.int .i64 n']∧Bx W' pb 4 #[.bool b]∧Below w.heap.size w W')∧Fr wr.heap.size W W'∧KeepB b1 W W':=by
 obtain ⟨o',ho',hfi⟩:=mapP_fld (φ:=lowV n') (m:=m2) hn hi;rw [←a1] at ho';obtain ⟨mc,mf,gB,gL⟩:=ofW.cell ho' hfi;have hnl:n<m'.objs.length:=(List.getElem?_eq_some_iff.1 ho').1;have ne1:gf≠pb:=ofW.ne_bx hnl a6 (by decide)
 have ne3:gf≠z:=ofW.ne_bx hnl a3 (by decide)
 have ne4:gf≠p6:=ofW.ne_bx hnl a4 (by decide)
 have ne5:gf≠p6+1:=ofW.ne_bx hnl a5 (by decide)
 have hzp:z≠pb:=by
  rintro rfl;have e1:=a3;have e2:=a6;unfold Bx at e1 e2;rw [e1] at e2;injection e2 with e2;injection e2 with _ e3;exact absurd e3 (by decide)
 refine (Free1_any n n' gf i pb (p6+1) ((ob m2 n).fs.getD i 0) b _ rfl hn1 W mc mf a6 a5 ne1 (by omega)).mono ?_;rintro e w' ⟨rfl,q,hw'⟩
 refine ⟨rfl,?_⟩
 obtain ⟨b',hb'⟩:∃b',b'=(b || (decide (n≠n') && decide (((ob m2 n).fs.getD i 0).toNat=n'+1))):=⟨_,rfl⟩
 rw [←hb'] at hw';obtain ⟨W1,hW1⟩:=exq (((W.drew).setCell ⟨pb,0,none⟩ (.bool b')).drewN q)
 rw [←hW1] at hw';have hRT:b'=true↔X∨refTo m n' n (i+1):=by
  have e0:refTo m2 n' n (i+1)↔refTo m n' n (i+1):=by subst hm2;exact Iff.rfl
  have e1:refTo m2 n' n i↔refTo m n' n i:=by subst hm2;exact Iff.rfl
  rw [←e0,refTo_step hn hi,e1,←or_assoc,←a2,hb',isRef]
  simp only [Bool.or_eq_true,Bool.and_eq_true,decide_eq_true_iff]
  exact or_congr Iff.rfl ⟨fun h=>⟨h.1,hk3,h.2⟩,fun h=>⟨h.1,h.2.2⟩⟩
 have oM1:OwnM W1 b1 37 t o s m':=by
  rw [hW1]
  exact ⟨OwnT.set (w:=W.drew) omW.t a6 (by decide) (by decide),OwnO.set (w:=W.drew) omW.o a6 (by decide) (by decide),own_set (w:=W.drew) omW.s a6 (by decide)⟩
 have oF1:OwnF W1 b1 o m'.objs n gf:=by rw [hW1];exact OwnF.set (w:=W.drew) ofW a6 (by decide) (by decide)
 have x3:Bx W1 z 31 r3c:=by rw [hW1];exact Bx.far (w:=W.drew) a3 (p:=⟨pb,0,none⟩) hzp _
 have x4:Bx W1 p6 31 r4c:=by rw [hW1];exact Bx.far (w:=W.drew) a4 (p:=⟨pb,0,none⟩) (by show _≠pb;omega) _
 have x5:Bx W1 (p6+1) 3 #[.int .i64 n']:=by rw [hW1];exact Bx.far (w:=W.drew) a5 (p:=⟨pb,0,none⟩) (by show _≠pb;omega) _
 have x9:Bx W1 pb 4 #[.bool b']:=by
  rw [hW1]
  have k:Bx (W.drew.setCell ⟨pb,0,none⟩ (.bool b')) pb 4 #[.bool b']:=by
   have:=Bx.set (w:=W.drew) (i:=0) a6 (.bool b')
   simpa using this
  exact k
 have xB:Below w.heap.size w W1:=by rw [hW1];exact (below_drewN (((a7.drew).setCell (p:=⟨pb,0,none⟩) hpbw _)) q)
 have hs1:W1.heap.size=W.heap.size:=by rw [hW1];show (W.setCell ⟨pb,0,none⟩ (.bool b')).heap.size=_;simp [World.setCell]
 have fr1:Fr wr.heap.size W W1:=⟨by rw [hs1];exact Nat.le_refl _,fun g t' cs hg _ hx=>by rw [hW1];exact Bx.far (w:=W.drew) hx (p:=⟨pb,0,none⟩) (by show _≠pb;omega) _⟩
 have kb1:KeepB b1 W W1:=fun v l hv=>by rw [hW1];exact own_set (w:=W.drew) hv a6 (by decide)
 have hlv:lowV n' ((ty m2.types (ob m2 n)).getD i 0) ((ob m2 n).fs.getD i 0)=if n'+1<((ob m2 n).fs.getD i 0).toNat then (ob m2 n).fs.getD i 0-1 else (ob m2 n).fs.getD i 0:=by
  rw [lowV]
  by_cases h:n'+1<((ob m2 n).fs.getD i 0).toNat
  ·rw [if_pos ⟨hk3,h⟩,if_pos h]
  ·rw [if_neg (fun hh=>h hh.2),if_neg h]
 by_cases hlt:n'+1<((ob m2 n).fs.getD i 0).toNat
 ·rw [if_pos hlt] at hw' hlv;have e1:(((ob m2 n).fs.getD i 0)-1).toNat=((ob m2 n).fs.getD i 0).toNat-1:=by
   have hone:(1:UInt64)≤(ob m2 n).fs.getD i 0:=by rw [UInt64.le_iff_toNat_le];show 1≤_;omega
   rw [UInt64.toNat_sub_of_le _ _ hone];rfl
  have hst:=OwnM.storeF oM1 oF1 ho' hfi ((ob m2 n).fs.getD i 0-1)
  have hmp:putF m' n i ((ob m2 n).fs.getD i 0-1)=mapP (lowV n') m2 n (i+1):=by rw [a1,←hlv];exact mapP_step hn hi
  rw [e1,←hw',hmp] at hst;obtain ⟨k1,k2,k3⟩:=hst;have far:∀{g t' cs},gf≠g→Bx W1 g t' cs→Bx w' g t' cs:=fun hne hx=>hx.grown k3 (.inr (fun e=>hne (by injection e)))
  refine ⟨_,mapP_like,k1,k2,⟨rfl,b',hRT,far ne3 x3,far ne4 x4,far ne5 x5,far ne1 x9,xB.grown k3 (by have:=a7.size;have:=hs1;omega) (fun k hk=>by injection hk with hk;omega)⟩,⟨by rw [←hs1];exact k3.size,fun g t' cs hg hne hx=>?_⟩,fun v l hv=>?_⟩
  ·have:=fr1.2 g t' cs hg hne hx;exact far (ofW.ne_bx hnl hx (Ne.symm hne)) this
  ·obtain ⟨vs,nf,cf,h1,h2,h4,h5,h6⟩:=oF1;exact World.ownsRow.kept (kb1 v l hv) k3 (own_unlike (kb1 v l hv) (h4 n _ _ h6 (List.getElem?_eq_getElem hnl)) (by decide))
 ·rw [if_neg hlt] at hw' hlv;have hmp:m'=mapP (lowV n') m2 n (i+1):=by rw [a1];exact (mapP_skip hlv).symm
  subst hw';exact ⟨m',by rw [hmp];exact mapP_like,oM1,oF1,⟨hmp,b',hRT,x3,x4,x5,x9,xB⟩,fr1,kb1⟩
theorem Free20_no (tv ov sv:Value) (m:Mo) (sl g:Int) (r:Int) (hr:r=asked m sl g) (ha:¬asked m sl g=0) (w:World) (h:Mod w tv ov sv m):
  Calls Tryz.prog 25 #[.agg #[tv,ov,sv],.agg #[.int .i64 sl,.int .i64 g]] w fun e w'=>∃t' o' s',e=.returned (.tuple #[.agg #[t',o',s'],.int .i64 r])∧OwnM w' w.heap.size 37 t' o' s' .nil∧Below w.heap.size w w':=by
 have B:=Below.refl w.heap.size w;have H:=hD h;have OT:=hD (open20_no tv ov sv m sl g r hr (by rw [hr];exact ha))
 have hne:(r != 0)=true:=by rw [bne_iff_ne,hr];exact ha
 clear hr ha h;go_in;go_upto_region 1 with (fail)
 refine wpb111 (31) (#[tv,ov,sv]) (39) (#[.int .i64 sl,.int .i64 g]) (31) (#[.slice none 0 0,.slice none 0 0,.slice none 0 0]) ?_;rintro wa1 ⟨g1,g2,g3,b⟩
 replace B:=B.trans (b.mono B.size);clear b;replace c_g1:=g1.five;replace c_g2:=g2.five;replace c_g3:=g3.five;go_wp2_with fail;refine (OT.out _ (H.out.below B)).mono ?_;rintro e wa2 ⟨rfl,b⟩
 replace g1:=g1.below b;replace c_g1:=g1.five;replace g2:=g2.below b;replace c_g2:=g2.five;replace g3:=g3.below b;replace c_g3:=g3.five;replace B:=B.trans (b.mono B.size);clear b;go_upto_region 2 with (fail)
 refine wpb10 (31) (#[.slice none 0 0,.slice none 0 0,.slice none 0 0]) ?_;rintro wa3 ⟨g4,b⟩
 replace g1:=g1.below b;replace c_g1:=g1.five;replace g2:=g2.below b;replace c_g2:=g2.five;replace g3:=g3.below b;replace c_g3:=g3.five;replace B:=B.trans (b.mono B.size);clear b;replace c_g4:=g4.five;go_wp2;refine bodyPost_ret (v:=.tuple #[.agg #[.slice none 0 0,.slice none 0 0,.slice none 0 0],.int .i64 r]) (by simp [results,Tryz.results25,go_sem,c_g3]) rfl ?_;refine ⟨_,_,_,rfl,OwnM.nil _ _,?_⟩
 exact bdn
theorem Free20_own (tv ov sv:Value) (m:Mo) (sl g:Int) (M:Mo) (r:Int) (hM:M=freeM m sl g) (hr:r=freeE m sl g) (w:World) (h:Mod w tv ov sv m):
  Calls Tryz.prog 25 #[.agg #[tv,ov,sv],.agg #[.int .i64 sl,.int .i64 g]] w fun e w'=>∃t' o' s',e=.returned (.tuple #[.agg #[t',o',s'],.int .i64 r])∧OwnM w' w.heap.size 37 t' o' s' M∧Below w.heap.size w w':=by
 by_cases ha:asked m sl g=0
 ·have B:=Below.refl w.heap.size w;have H:=hD h;obtain ⟨c0,hr0,k,s,n',o,t,hk,hk16,hs,hu,hg,hso,hat,hown,hob1,_⟩:=asked_ok ha;have OT:=hD (open20_ok tv ov sv m sl g n' ha hown)
  obtain ⟨_,hobjs,h16,_⟩:=chk_ok c0;have hn':n'<m.objs.length:=(List.getElem?_eq_some_iff.1 hob1).1;have hBU:=fun n=>busy_iff (m:=m) (k:=k) (g:=g) (by rw [h16];exact hk16) n;subst hk;have hM1:M=if Busy m (k:Int) n' then .nil else ⟨m.types,(m.objs.map (lowO m n')).eraseIdx n',(m.slots.set k ⟨g,false,0⟩).map (lowS n')⟩:=by
   rw [hM,freeM,freeE,if_pos ha,hown]
   by_cases hb:Busy m (k:Int) n'
   ·rw [if_pos hb,if_pos hb];rfl
   ·rw [if_neg hb,if_neg hb];rfl
  have hr1:r=if Busy m (k:Int) n' then 45 else 0:=by rw [hr,freeE,if_pos ha,hown]
  have HM:=hD hM1;have HRR:=hD hr1;have HBU:=hD (hBU n')
  have HS:=hD hs;have H16:=hD h16;have HOB:=hD hobjs;have HN:=hD hn';have HRO:=hD (rough_chk c0)
  obtain ⟨S1,hS1⟩:=exq (m.slots.set k ⟨g,false,0⟩)
  have HS1:=hD hS1;have H1L:=hD (show S1.length=16 by rw [hS1,List.length_set];exact h16)
  have H1B:=hD (show ∀s∈S1,s.used=true→0≤s.at_∧s.at_≤1000 from by
   intro s2 hs2 hu2;rw [hS1] at hs2;rcases List.mem_or_eq_of_mem_set hs2 with h | h
   ·have:=((chk_ok c0).2.2.2.2.2 s2 h).2.2 hu2;omega
   ·rw [h] at hu2;cases hu2)
  clear hr hM ha c0 hr0 hu hso hat hown h hs h16 hM1 hr1 hBU hS1 hobjs hob1;have hn1:n'≤1000:=by have:=HN.out;have:=HOB.out;omega
  clear hn';go_in;go_upto_region 1 with (fail)
  refine wpb111 (31) (#[tv,ov,sv]) (39) (#[.int .i64 k,.int .i64 g]) (31) (#[.slice none 0 0,.slice none 0 0,.slice none 0 0]) ?_;rintro wa1 ⟨g1,g2,g3,b⟩
  replace B:=B.trans (b.mono B.size);clear b;replace c_g1:=g1.five;replace c_g2:=g2.five;replace c_g3:=g3.five;have hz1:=B.size;have hp1:=g3.lt;go_wp2_with fail;refine (OT.out _ (H.out.below B)).mono ?_;rintro e wa2 ⟨t',o',s',rfl,om,b⟩
  replace g1:=g1.below b;replace c_g1:=g1.five;replace g2:=g2.below b;replace c_g2:=g2.five;replace g3:=g3.below b;replace c_g3:=g3.five;replace B:=B.trans (b.mono B.size);clear b;obtain ⟨⟨tA,tn,tc,rfl⟩,⟨oA,on,oc,rfl⟩,_⟩:=om.forms;obtain ⟨gS,sc,rfl⟩:∃g c,s'=.slice (some ⟨g,0,none⟩) 16 c:=by obtain ⟨g,n,c,e,e2⟩:=om.s.form (by have:=H16.out;omega);rw [e2,H16.out] at e;exact ⟨g,c,e⟩
  have hgS:=om.s.lt gS rfl;have hz_:=(om.s.lt gS rfl).1;go_upto_region 2 with (fail)
  refine wpb11 (31) (#[.slice tA tn tc,.slice oA on oc,.slice (some ⟨gS,0,none⟩) 16 sc]) (3) (#[.int .i64 n']) ?_;rintro wa3 ⟨g4,g5,b⟩
  replace g1:=g1.below b;replace c_g1:=g1.five;replace g2:=g2.below b;replace c_g2:=g2.five;replace g3:=g3.below b;replace c_g3:=g3.five;replace om:=om.below b;replace B:=B.trans (b.mono B.size);clear b;replace c_g4:=g4.five;replace c_g5:=g5.five;have HP:=hD (OwnS.put3 (k:=k) om.s (by have:=H16.out;omega) ⟨g,false,0⟩)
  obtain ⟨ix,p0,p1,p2⟩:=OwnS.cells om.s HS.out;have fz:=HP.out.2.2.2.2;have hM3:=OwnM.slots om HP.out.2.1 HP.out.1;have nx:=fun {q:Nat} {tq:TypeId} {cs:Array Value} (hb:Bx wa3 q tq cs) (hne:gS≠q)=>hb.grown HP.out.2.1 (.inr (fun e=>hne (by injection e)))
  have r3:=nx g3 (by omega);have r4:=nx g4 (by omega);have r5:=nx g5 (by omega)
  have hb3:=B.grown HP.out.2.1 B.size (fun k hk=>by injection hk with hk;rw [←hk];have:=HP.out.2.2.1;omega)
  rw [←HS1.out] at hM3;have HH:=hD (And.intro hM3 (And.intro r3 (And.intro r4 (And.intro r5 hb3))))
  clear nx r3 r4 r5 hb3 hM3;go_upto_region 5 with (fail)
  generalize hp6:wa2.heap.size=p6 at*
  refine wp_gen (fun Wv=>OwnM Wv wa1.heap.size 37 (.slice tA tn tc) (.slice oA on oc) (.slice (some ⟨gS,0,none⟩) 16 sc) ⟨m.types,m.objs,S1⟩∧Bx Wv (w.heap.size+1+1) 31 #[.slice none 0 0,.slice none 0 0,.slice none 0 0]∧Bx Wv p6 31 #[.slice tA tn tc,.slice oA on oc,.slice (some ⟨gS,0,none⟩) 16 sc]∧Bx Wv (p6+1) 3 #[.int .i64 n']∧Below w.heap.size w Wv) HH.out ?_;rintro wz ⟨om2,r3,r4,r5,B2⟩
  obtain ⟨b1,hb1⟩:=exq wa1.heap.size;rw [←hb1] at om2;have hb13:w.heap.size+1+1<b1:=by omega
  have hb16:b1≤p6:=by omega
  have hg6:gS<p6:=by omega
  clear HH om g1 g2 g3 g4 g5 B p0 p1 p2 fz ix HP c_g1 c_g2 c_g3 c_g4 c_g5 hb1 hp6 hz1 hp1 hgS hz_;have hp7:=r5.lt;have bz:=(Below.refl wz.heap.size wz).alloc (Nat.le_refl _) (.cells #[.bool false] 4)
  have HZ:=hD (And.intro (OwnM.below om2 bz) (And.intro (r3.below bz) (And.intro (r4.below bz) (And.intro (r5.below bz) (And.intro (Bx.new wz 4 #[.bool false]) (And.intro (B2.trans (bz.mono B2.size)) (show wz.heap.size<(wz.alloc (.cells #[.bool false] 4)).heap.size by simp)))))))
  clear om2 r3 r4 r5 B2 bz;go_upto_region 6 with (fail)
  generalize hpb:wz.heap.size=pb at*
  refine wp_gen (fun Wv=>OwnM Wv b1 37 (.slice tA tn tc) (.slice oA on oc) (.slice (some ⟨gS,0,none⟩) 16 sc) ⟨m.types,m.objs,S1⟩∧Bx Wv (w.heap.size+1+1) 31 #[.slice none 0 0,.slice none 0 0,.slice none 0 0]∧Bx Wv p6 31 #[.slice tA tn tc,.slice oA on oc,.slice (some ⟨gS,0,none⟩) 16 sc]∧Bx Wv (p6+1) 3 #[.int .i64 n']∧Bx Wv pb 4 #[.bool false]∧Below w.heap.size w Wv∧pb<Wv.heap.size) ?_ ?_
  ·exact HZ.out
  clear hpb;rintro wy hy;have HY:=hD hy;have c4:=hy.2.2.1.cell;clear HZ hy;go_wp2;clear c4
  go_loopg [34] 16 (fun g i wr=>∃j:Nat,j≤16∧g=16-j∧i=.int .i64 j∧Hid (∃bb:Bool,(bb=true↔sloTo S1 n' j)∧OwnM wr b1 37 (.slice tA tn tc) (.slice oA on oc) (.slice (some ⟨gS,0,none⟩) 16 sc) ⟨m.types,m.objs,mapT (lowS n') S1 j⟩∧Bx wr (w.heap.size+1+1) 31 #[.slice none 0 0,.slice none 0 0,.slice none 0 0]∧Bx wr p6 31 #[.slice tA tn tc,.slice oA on oc,.slice (some ⟨gS,0,none⟩) 16 sc]∧Bx wr (p6+1) 3 #[.int .i64 n']∧Bx wr pb 4 #[.bool bb]∧Below w.heap.size w wr∧pb<wr.heap.size))
  case atStart=>exact ⟨0,by omega,by omega,rfl,hD ⟨false,⟨fun h=>by (cases h),fun h=>absurd h sloTo_zero⟩,by rw [mapT_zero];exact HY.out⟩⟩
  case round=>
   clear HY;obtain ⟨j,hj,rfl,rfl,hh⟩:=hrel;obtain ⟨bb,hbb,om,r3,r4,r5,r9,B,hpz⟩:=hh.out;by_cases hlt:j<16
   ·obtain ⟨s1,hs1⟩:∃s,S1[j]?=some s:=⟨_,List.getElem?_eq_getElem (by rw [H1L.out];exact hlt)⟩
    have hbs:=H1B.out s1 (List.mem_of_getElem? hs1)
    have hs2:=mapT_get (f:=lowS n') hs1;obtain ⟨ix,q0,q1,q2⟩:=OwnS.cells om.s hs2;have HSL:=hD hs1;obtain ⟨b0,hb0⟩:=exq bb;have HB1:=hD (fun (b':Bool) (e:b'=(b0 || (s1.used && (s1.at_==(n':Int)))))=>show b'=true↔sloTo S1 n' (j+1) from by
     rw [sloTo_step hs1,e,hb0,←hbb];simp [Bool.or_eq_true,Bool.and_eq_true])
    have HX:=hD (And.intro om (And.intro r3 (And.intro r4 (And.intro r5 (And.intro r9 (And.intro B hpz))))))
    obtain ⟨wn,hwn⟩:=exq wr;subst hwn;clear hh om r3 r4 r5 r9 B hbb hs1;go_upto_region 9 with (fail)
    refine wp_gen (fun Wv=>Bx Wv wn.heap.size 37 #[.int .i64 s1.gen,.bool s1.used,.int .i64 s1.at_]∧Below wn.heap.size wn Wv) ?_ ?_
    ·exact ⟨Bx.new wn _ _,(Below.refl _ wn).alloc (Nat.le_refl _) _⟩
    rintro wx ⟨g11,b⟩
    generalize hp11:wn.heap.size=p11 at*
    have hp11b:pb<p11:=by have:=HX.out.2.2.2.2.2.2;omega
    have SX:∀x:Bool,OwnM (wx.setCell ⟨pb,0,none⟩ (.bool x)) b1 37 (.slice tA tn tc) (.slice oA on oc) (.slice (some ⟨gS,0,none⟩) 16 sc) ⟨m.types,m.objs,mapT (lowS n') S1 j⟩∧Bx (wx.setCell ⟨pb,0,none⟩ (.bool x)) (w.heap.size+1+1) 31 #[.slice none 0 0,.slice none 0 0,.slice none 0 0]∧Bx (wx.setCell ⟨pb,0,none⟩ (.bool x)) p6 31 #[.slice tA tn tc,.slice oA on oc,.slice (some ⟨gS,0,none⟩) 16 sc]∧Bx (wx.setCell ⟨pb,0,none⟩ (.bool x)) (p6+1) 3 #[.int .i64 n']∧Bx (wx.setCell ⟨pb,0,none⟩ (.bool x)) pb 4 #[.bool x]∧Bx (wx.setCell ⟨pb,0,none⟩ (.bool x)) p11 37 #[.int .i64 s1.gen,.bool s1.used,.int .i64 s1.at_]∧Below w.heap.size w (wx.setCell ⟨pb,0,none⟩ (.bool x))∧pb<(wx.setCell ⟨pb,0,none⟩ (.bool x)).heap.size:=fun x=>by
     subst hp11;obtain ⟨om,r3,r4,r5,r9,B,hpz⟩:=HX.out;have om2:=om.below b;have r92:=r9.below b;refine ⟨⟨om2.t.set r92 (by decide) (by decide),om2.o.set r92 (by decide) (by decide),own_set om2.s r92 (by decide)⟩,(r3.below b).far (p:=⟨pb,0,none⟩) (by show _≠pb;omega) _,(r4.below b).far (p:=⟨pb,0,none⟩) (by show _≠pb;omega) _,(r5.below b).far (p:=⟨pb,0,none⟩) (by show _≠pb;omega) _,?_,g11.far (p:=⟨pb,0,none⟩) (by show _≠pb;omega) _,(B.trans (b.mono B.size)).setCell (p:=⟨pb,0,none⟩) (by show _≤pb;omega) _,?_⟩
     ·have:=r92.set (i:=0) (.bool x);simpa using this
     ·have:=b.size;simp [World.setCell];omega
    have c9:=(HX.out.2.2.2.2.1.below (hp11 ▸ b)).cell;have f9:=(HX.out.2.2.2.2.1.below (hp11 ▸ b)).free;have c5:=(HX.out.2.2.2.1.below (hp11 ▸ b)).cell;have c11:=g11.cell;have SX:=hD SX;clear g11 b hp11 HX ix q0 q1 q2;have hlc:=low_cases n' s1;rcases hlc with hlc | ⟨hu,e1,e2⟩
    ·have HE:=hD (mapT_same HSL.out (low_same (by rcases hlc with h | h | h;exact .inl h;exact .inr h.2.2;exact .inr h.2.2)))
     rcases bb with _ | _
     all_goals
      rcases hlc with hu | ⟨hu,e1,e2⟩ | ⟨hu,e1,e2⟩
      all_goals
       rw [hu] at c11;go_upto_region 10 with (fail)
       refine wp_gen (fun Wv=>∃x:Bool,x=(b0 || (s1.used && (s1.at_==(n':Int))))∧OwnM Wv b1 37 (.slice tA tn tc) (.slice oA on oc) (.slice (some ⟨gS,0,none⟩) 16 sc) ⟨m.types,m.objs,mapT (lowS n') S1 j⟩∧Bx Wv (w.heap.size+1+1) 31 #[.slice none 0 0,.slice none 0 0,.slice none 0 0]∧Bx Wv p6 31 #[.slice tA tn tc,.slice oA on oc,.slice (some ⟨gS,0,none⟩) 16 sc]∧Bx Wv (p6+1) 3 #[.int .i64 n']∧Bx Wv pb 4 #[.bool x]∧Bx Wv p11 37 #[.int .i64 s1.gen,.bool s1.used,.int .i64 s1.at_]∧Below w.heap.size w Wv∧pb<Wv.heap.size) ⟨_,by first | (rw [hb0,hu,e1];rfl) | (rw [hb0,hu];rfl),SX.out _⟩ ?_;rintro wq ⟨x,hx,om,r3,r4,r5,r9,r11,B,hpz⟩
       have HF:=hD (And.intro (HB1.out x hx) (And.intro om (And.intro r3 (And.intro r4 (And.intro r5 (And.intro r9 (And.intro B hpz)))))))
       clear c9 f9 c5 c11 hx om r3 r4 r9 B;have c5:=r5.cell;have c11:=r11.cell;rw [hu] at c11;clear r5 r11;go_wp2;clear c5 c11
       go_roundg (16-(j+1))
       case measure=>omega
       case rel=>
        refine ⟨j+1,by omega,rfl,by go_num,hD ⟨x,?_⟩⟩
        rw [HE.out];exact HF.out
    ·have HE:=hD (mapT_set (f:=lowS n') HSL.out)
     have HLS:=hD (low_less hu e2)
     have hbd:=hbs hu;have hwr:IntKind.i64.wrap (s1.at_-1)=s1.at_-1:=IntWalk.i64_in _ (by omega)
     rcases bb with _ | _
     all_goals
      rw [hu] at c11;go_upto_region 10 with (fail)
      refine wp_gen (fun Wv=>∃x:Bool,x=(b0 || (s1.used && (s1.at_==(n':Int))))∧OwnM Wv b1 37 (.slice tA tn tc) (.slice oA on oc) (.slice (some ⟨gS,0,none⟩) 16 sc) ⟨m.types,m.objs,mapT (lowS n') S1 j⟩∧Bx Wv (w.heap.size+1+1) 31 #[.slice none 0 0,.slice none 0 0,.slice none 0 0]∧Bx Wv p6 31 #[.slice tA tn tc,.slice oA on oc,.slice (some ⟨gS,0,none⟩) 16 sc]∧Bx Wv (p6+1) 3 #[.int .i64 n']∧Bx Wv pb 4 #[.bool x]∧Bx Wv p11 37 #[.int .i64 s1.gen,.bool s1.used,.int .i64 s1.at_]∧Below w.heap.size w Wv∧pb<Wv.heap.size) ⟨_,by first | (rw [hb0,hu,e1];rfl) | (rw [hb0,hu];rfl),SX.out _⟩ ?_;rintro wq ⟨x,hx,om,r3,r4,r5,r9,r11,B,hpz⟩
      have HF:=hD (HB1.out x hx)
      clear c9 f9 c5 c11 hx;have c4:=r4.cell;have c5:=r5.cell;have c11:=r11.cell;rw [hu] at c11;obtain ⟨ix,q0,q1,q2⟩:=OwnS.cells om.s hs2;have HP:=hD (OwnS.put1 om.s hs2 (s1.at_-1))
      have fz:=HP.out.2.2.2.2;have hM3:=OwnM.slots om HP.out.2.1 HP.out.1;have nx:=fun {q:Nat} {tq:TypeId} {cs:Array Value} (hb:Bx wq q tq cs) (hne:gS≠q)=>hb.grown HP.out.2.1 (.inr (fun e=>hne (by injection e)))
      have y3:=nx r3 (own_ne_bx om.s r3 (by decide));have y4:=nx r4 (own_ne_bx om.s r4 (by decide));have y5:=nx r5 (own_ne_bx om.s r5 (by decide));have y9:=nx r9 (own_ne_bx om.s r9 (by decide))
      have hb3:=B.grown HP.out.2.1 B.size (fun k hk=>by injection hk with hk;rw [←hk];have:=HP.out.2.2.1;omega)
      have HH:=hD (And.intro hM3 (And.intro y3 (And.intro y4 (And.intro y5 (And.intro y9 (And.intro hb3 (Nat.lt_of_lt_of_le hpz HP.out.2.1.size)))))))
      clear nx y3 y4 y5 y9 hb3 hM3 om r3 r4 r5 r9 r11 B q0 q1;go_wp2;clear c4 c5 c11 ix q2 fz
      go_roundg (16-(j+1))
      case measure=>omega
      case rel=>
       refine ⟨j+1,by omega,rfl,by go_num,hD ⟨x,HF.out,?_⟩⟩
       rw [←HE.out,HLS.out];exact HH.out
   ·obtain rfl:j=16:=by omega
    rw [mapT_done (by rw [H1L.out];omega)] at om;obtain ⟨m2,hm2⟩:∃m2:Mo,m2=⟨m.types,m.objs,S1.map (lowS n')⟩:=⟨_,rfl⟩
    rw [←hm2] at om;have hb1r:b1≤wr.heap.size:=by have:=r4.lt;omega
    obtain ⟨J,hJ⟩:∃J:Nat→Nat→Mo→World→Prop,J=fun n i m' W=>m'=mapP (lowV n') m2 n i∧∃b:Bool,(b=true↔sloTo S1 n' 16∨refTo m n' n i)∧Bx W (w.heap.size+1+1) 31 #[.slice none 0 0,.slice none 0 0,.slice none 0 0]∧Bx W p6 31 #[.slice tA tn tc,.slice oA on oc,.slice (some ⟨gS,0,none⟩) 16 sc]∧Bx W (p6+1) 3 #[.int .i64 n']∧Bx W pb 4 #[.bool b]∧Below w.heap.size w W:=⟨_,rfl⟩
    have RF:=refs_any m2 (.slice tA tn tc) (.slice oA on oc) (.slice (some ⟨gS,0,none⟩) 16 sc) 74 #[] #[.pointer (some ⟨pb,0,none⟩),.pointer (some ⟨p6+1,0,none⟩)] b1 J wr hb1r (by rw [hm2];exact HRO.out _) (fun _ _=>rfl)
     (by
      intro n i m' W W' hj hb;subst hJ;obtain ⟨a1,b,a2,a3,a4,a5,a6,a7⟩:=hj;exact ⟨a1,b,a2,a3.below hb,a4.below hb,a5.below hb,a6.below hb,a7.trans (hb.mono a7.size)⟩)
     (by
      intro n m' W hn hj;subst hJ;subst hm2;obtain ⟨a1,b,a2,a3⟩:=hj;exact ⟨a1.trans mapP_next,b,a2.trans (or_congr Iff.rfl (refTo_next (m:=m) hn)),a3⟩)
     (by
      intro n i m' W hn hi hk3 hj;subst hJ;subst hm2;obtain ⟨a1,b,a2,a3⟩:=hj;refine ⟨a1.trans (mapP_skip (if_neg (fun h=>hk3 h.1))).symm,b,a2.trans (or_congr Iff.rfl ?_),a3⟩
      rw [refTo_step (m:=m) hn hi]
      exact ⟨.inl,fun h=>h.elim id (fun h=>absurd h.2.1 hk3)⟩)
     (by
      intro n i m' gf W hn hi hk3 hl hW omW ofW hj;subst hJ;obtain ⟨a1,b,a2,a3,a4,a5,a6,a7⟩:=hj;exact free_step hm2 hn hi hk3 hn1 (z:=w.heap.size+1+1) (by omega) omW ofW a1 a2 a3 a4 a5 a6 a7 (by omega) (by omega) hpz (by omega))
     m2 (Like.refl _) om (by subst hJ;exact ⟨by rw [mapP_zero],bb,hbb.trans ⟨.inl,fun h=>h.elim id (fun h=>absurd h refTo_zero)⟩,r3,r4,r5,r9,B⟩)
    have RF:=hD RF;have HM2:=hD hm2;have HJ:=hD hJ;have c4:=r4.cell;clear hh om r3 r4 r5 r9 hbb hJ hm2 B hb1r;go_wp2_with fail;refine RF.out.mono ?_;rintro e wf ⟨rfl,m3,hl3,om,hj3⟩
    rw [HJ.out] at hj3;obtain ⟨a1,b,a2,r3,r4,r5,r9,B⟩:=hj3;have hm3:m3=⟨m.types,m.objs.map (lowO m n'),S1.map (lowS n')⟩:=by
     rw [a1,HM2.out]
     exact free_map
    have hN3:m2.objs.length=m.objs.length:=by rw [HM2.out]
    rw [hN3] at a2;have hbz:b=true↔Busy m (k:Int) n':=by rw [HBU.out,a2,HS1.out,H16.out]
    rw [hm3] at om;clear a1 a2 hl3 c4 RF hN3 hm3;have c9:=r9.cell;have c3:=r3.cell;have f3:=r3.free;rcases b with _ | _
    ·have hnb:¬Busy m (k:Int) n':=fun h=>by have:=hbz.2 h;cases this
     have hM1:M=⟨m.types,(m.objs.map (lowO m n')).eraseIdx n',S1.map (lowS n')⟩:=by rw [HM.out,if_neg hnb,HS1.out]
     have hr1:r=0:=by rw [HRR.out,if_neg hnb]
     obtain ⟨gO,oc',hO⟩:∃g c,Value.slice oA on oc=.slice (some ⟨g,0,none⟩) on c:=by
      obtain ⟨vs,z1,z2,_⟩:=om.o;obtain ⟨g,c,cur,e,_⟩:=own_form z2 (by simp;have:=HN.out;omega)
      refine ⟨g,c,?_⟩
      rw [e];injection e with _ e2;rw [e2]
     cases hO;obtain ⟨hon,xs,z2,z1,HER⟩:=om.o.erase (i:=n') (by simpa using HN.out) (by simp;have:=HOB.out;omega)
     have hon2:on=m.objs.length:=by simpa using hon
     have hni:n'<on:=by rw [hon2];exact HN.out
     have DE:=hD (Delete_any gO on oc n' (n'+1) b1 xs rfl hni (by have:=HOB.out;omega) wf z2 z1)
     have OM:=hD om;have HER:=hD HER;have c4:=r4.cell;have c5:=r5.cell;have hw1:IntKind.i64.wrap ((n':Int)+1)=(n':Int)+1:=IntWalk.i64_in _ (by omega)
     clear om z1 z2 hon hon2 hbz hnb;subst hM1;subst hr1;go_wp2_with fail;refine DE.out.mono ?_;rintro e wd ⟨rfl,od,gd⟩
     have oO2:=HER.out wd gd od;have neq:∀{q:Nat} {tq:TypeId} {cs:Array Value},Bx wf q tq cs→68≠tq→gO≠q:=fun hx hne=>by
      obtain ⟨vs,z1,z2,_⟩:=OM.out.o;exact own_ne_bx z2 hx hne
     have nx:=fun {q:Nat} {tq:TypeId} {cs:Array Value} (hb:Bx wf q tq cs) (hne:gO≠q)=>hb.grown gd (.inr (fun e=>hne (by injection e)))
     have y3:=nx r3 (neq r3 (by decide));have y4:=nx r4 (neq r4 (by decide))
     have hgO:b1≤gO:=by
      obtain ⟨vs,z1,z2,_⟩:=OM.out.o;exact (z2.lt gO rfl).1
     have B2:=B.grown gd B.size (fun k hk=>by injection hk with hk;omega)
     have om2:OwnM wd b1 37 (.slice tA tn tc) (.slice (some ⟨gO,0,none⟩) (on-1) oc) (.slice (some ⟨gS,0,none⟩) 16 sc) ⟨m.types,(m.objs.map (lowO m n')).eraseIdx n',S1.map (lowS n')⟩:=by
      obtain ⟨vs,z1,z2,_⟩:=OM.out.o;exact ⟨OwnT.kept OM.out.t z2 gd (by decide) (by decide),oO2,World.ownsRow.kept OM.out.s gd (own_unlike OM.out.s z2 (by decide))⟩
     obtain ⟨on1,hon1⟩:=exq (on-1)
     rw [←hon1] at om2 ⊢;have om3:=om2.set (i:=1) (u:=.slice (some ⟨gO,0,none⟩) on1 oc) y4;have y43:=y4.set (i:=1) (.slice (some ⟨gO,0,none⟩) on1 oc)
     have y33:=y3.far (p:=⟨p6,1,none⟩) (by show _≠p6;omega) (.slice (some ⟨gO,0,none⟩) on1 oc)
     have B3:=B2.setCell (p:=⟨p6,1,none⟩) (by show _≤p6;omega) (.slice (some ⟨gO,0,none⟩) on1 oc)
     have HF:=hD (And.intro om3 (And.intro y33 (And.intro (show Bx (wd.setCell ⟨p6,1,none⟩ (.slice (some ⟨gO,0,none⟩) on1 oc)) p6 31 #[.slice tA tn tc,.slice (some ⟨gO,0,none⟩) on1 oc,.slice (some ⟨gS,0,none⟩) 16 sc] by simpa using y43) B3)))
     have cy4:=y4.cell;have fy4:=y4.free;clear om3 y33 y43 B3 om2 y3 y4 nx neq B2 oO2 gd od r3 r4 r5 r9 B c9 c3 f3 c4 c5 hon1 OM HER DE;go_upto_region 17 with (fail)
     refine wp_gen (fun Wv=>OwnM Wv b1 37 (.slice tA tn tc) (.slice (some ⟨gO,0,none⟩) on1 oc) (.slice (some ⟨gS,0,none⟩) 16 sc) ⟨m.types,(m.objs.map (lowO m n')).eraseIdx n',S1.map (lowS n')⟩∧Bx Wv (w.heap.size+1+1) 31 #[.slice none 0 0,.slice none 0 0,.slice none 0 0]∧Bx Wv p6 31 #[.slice tA tn tc,.slice (some ⟨gO,0,none⟩) on1 oc,.slice (some ⟨gS,0,none⟩) 16 sc]∧Below w.heap.size w Wv) HF.out ?_;clear HF cy4 fy4;rintro wl ⟨om3,r3,r4,B3⟩
     have c3:=r3.cell;have f3:=r3.free;have c4:=r4.cell;go_wp2;refine bodyPost_ret (v:=.tuple #[.agg #[.slice tA tn tc,.slice (some ⟨gO,0,none⟩) on1 oc,.slice (some ⟨gS,0,none⟩) 16 sc],.int .i64 0]) (by simp [results,Tryz.results25,go_sem,c3,f3]) rfl ?_;refine ⟨_,_,_,rfl,OwnM.set3 (om3.mono (by omega)) r3,?_⟩
     exact ((B3.setCell (p:=⟨w.heap.size+1+1,0,none⟩) (by simp;omega) _).setCell (p:=⟨w.heap.size+1+1,1,none⟩) (by simp;omega) _).setCell (p:=⟨w.heap.size+1+1,2,none⟩) (by simp;omega) _
    ·have hM1:M=.nil:=by rw [HM.out,if_pos (hbz.1 rfl)]
     have hr1:r=45:=by rw [HRR.out,if_pos (hbz.1 rfl)]
     subst hM1;subst hr1;clear om r4 r5 hbz;go_wp2;refine bodyPost_ret (v:=.tuple #[.agg #[.slice none 0 0,.slice none 0 0,.slice none 0 0],.int .i64 45]) (by simp [results,Tryz.results25,go_sem,c3,f3]) rfl ?_;refine ⟨_,_,_,rfl,OwnM.nil _ _,?_⟩
     exact ((B.setCell (p:=⟨w.heap.size+1+1,0,none⟩) (by simp;omega) _).setCell (p:=⟨w.heap.size+1+1,1,none⟩) (by simp;omega) _).setCell (p:=⟨w.heap.size+1+1,2,none⟩) (by simp;omega) _
 ·have hr1:r=asked m sl g:=by rw [hr,freeE,if_neg ha]
  have hM1:M=.nil:=by
   rw [hM,freeM,if_neg];rw [freeE,if_neg ha];exact ha
  rw [hM1]
  exact Free20_no tv ov sv m sl g r hr1 ha w h
end
section
open Go.RowKit L02 L13 L18 L20
theorem Drop20_own (tv ov sv:Value) (m:Mo) (sl g:Int) (M:Mo) (r:Int) (hM:M=dropM m sl g) (hr:r=asked m sl g) (ha:asked m sl g=0) (w:World) (h:Mod w tv ov sv m):
  Calls Tryz.prog 23 #[.agg #[tv,ov,sv],.agg #[.int .i64 sl,.int .i64 g]] w fun e w'=>∃t' o' s',e=.returned (.tuple #[.agg #[t',o',s'],.int .i64 0])∧OwnM w' w.heap.size 37 t' o' s' M∧Below w.heap.size w w':=by
 have B:=Below.refl w.heap.size w;have H:=hD h;obtain ⟨c0,hr0,k,s,n',o,t,hk,hk16,hs,hu,hg,hso,hat,hown,_⟩:=asked_ok ha;have OT:=hD (open20_ok tv ov sv m sl g n' ha hown)
 obtain ⟨_,_,h16,_⟩:=chk_ok c0;have hr1:r=0:=by rw [hr,ha]
 have hM1:M=⟨m.types,m.objs,m.slots.set k ⟨g,false,0⟩⟩:=by rw [hM,dropM,if_pos ha,hk,Int.toNat_natCast]
 subst hk;subst hr1;subst hM1;have HS:=hD hs;have H16:=hD h16;clear hr hM ha c0 hr0 hu hso hat hown h hs h16;go_in;go_upto_region 1 with (fail)
 refine wpb111 (31) (#[tv,ov,sv]) (39) (#[.int .i64 k,.int .i64 g]) (31) (#[.slice none 0 0,.slice none 0 0,.slice none 0 0]) ?_;rintro wa1 ⟨g1,g2,g3,b⟩
 replace B:=B.trans (b.mono B.size);clear b;replace c_g1:=g1.five;replace c_g2:=g2.five;replace c_g3:=g3.five;have hz1:=B.size;have hp1:=g3.lt;go_wp2_with fail;refine (OT.out _ (H.out.below B)).mono ?_;rintro e wa2 ⟨t',o',s',rfl,om,b⟩
 replace g1:=g1.below b;replace c_g1:=g1.five;replace g2:=g2.below b;replace c_g2:=g2.five;replace g3:=g3.below b;replace c_g3:=g3.five;replace B:=B.trans (b.mono B.size);clear b;obtain ⟨⟨tA,tn,tc,rfl⟩,⟨oA,on,oc,rfl⟩,_⟩:=om.forms;obtain ⟨gS,sc,rfl⟩:∃g c,s'=.slice (some ⟨g,0,none⟩) 16 c:=by obtain ⟨g,n,c,e,e2⟩:=om.s.form (by have:=H16.out;omega);rw [e2,H16.out] at e;exact ⟨g,c,e⟩
 have hgS:=om.s.lt gS rfl;go_upto_region 2 with (fail)
 refine wpb1 (31) (#[.slice tA tn tc,.slice oA on oc,.slice (some ⟨gS,0,none⟩) 16 sc]) ?_;rintro wa3 ⟨g4,b⟩
 replace g1:=g1.below b;replace c_g1:=g1.five;replace g2:=g2.below b;replace c_g2:=g2.five;replace g3:=g3.below b;replace c_g3:=g3.five;replace om:=om.below b;replace B:=B.trans (b.mono B.size);clear b;replace c_g4:=g4.five;have HP:=hD (OwnS.put3 (k:=k) om.s (by have:=H16.out;omega) ⟨g,false,0⟩)
 obtain ⟨ix,p0,p1,p2⟩:=OwnS.cells om.s HS.out;have fz:=HP.out.2.2.2.2;have hM3:=OwnM.slots om HP.out.2.1 HP.out.1;have nx:=fun {q:Nat} {tq:TypeId} {cs:Array Value} (hb:Bx wa3 q tq cs) (hne:gS≠q)=>hb.grown HP.out.2.1 (.inr (fun e=>hne (by injection e)))
 have r3:=nx g3 (by omega);have r4:=nx g4 (by omega)
 have hb3:=B.grown HP.out.2.1 B.size (fun k hk=>by injection hk with hk;rw [←hk];have:=HP.out.2.2.1;omega)
 have HH:=hD (And.intro hM3 (And.intro r3 (And.intro r4 hb3)))
 clear nx r3 r4 hb3 hM3;go_upto_region 5 with (fail)
 refine wp_gen (fun Wv=>OwnM Wv wa1.heap.size 37 (.slice tA tn tc) (.slice oA on oc) (.slice (some ⟨gS,0,none⟩) 16 sc) ⟨m.types,m.objs,m.slots.set k ⟨g,false,0⟩⟩∧Bx Wv (w.heap.size+1+1) 31 #[.slice none 0 0,.slice none 0 0,.slice none 0 0]∧Bx Wv wa2.heap.size 31 #[.slice tA tn tc,.slice oA on oc,.slice (some ⟨gS,0,none⟩) 16 sc]∧Below w.heap.size w Wv) HH.out ?_;rintro wz ⟨om2,r3,r4,B2⟩
 clear HH om g1 g2 g3 g4 B p0 p1 p2 fz ix HP c_g1 c_g2 c_g3 c_g4;have c3:=r3.cell;have f3:=r3.free;have c4:=r4.cell;go_wp2;refine bodyPost_ret (v:=.tuple #[.agg #[.slice tA tn tc,.slice oA on oc,.slice (some ⟨gS,0,none⟩) 16 sc],.int .i64 0]) (by simp [results,Tryz.results23,go_sem,c3,f3]) rfl ?_;refine ⟨_,_,_,rfl,(OwnM.set3 om2 r3).mono hz1,?_⟩
 exact ((B2.setCell (p:=⟨w.heap.size+1+1,0,none⟩) (by simp;omega) _).setCell (p:=⟨w.heap.size+1+1,1,none⟩) (by simp;omega) _).setCell (p:=⟨w.heap.size+1+1,2,none⟩) (by simp;omega) _
end
section
open Go.RowKit L02 L13 L18 L20
theorem Drop20_u (tv ov sv:Value) (m:Mo) (sl g:Int) (M:Mo) (r:Int) (hM:M=dropM m sl g) (hr:r=asked m sl g) (w:World) (h:Mod w tv ov sv m):
  Calls Tryz.prog 23 #[.agg #[tv,ov,sv],.agg #[.int .i64 sl,.int .i64 g]] w fun e w'=>∃t' o' s',e=.returned (.tuple #[.agg #[t',o',s'],.int .i64 r])∧Mod w' t' o' s' M∧(r=0→OwnM w' w.heap.size 37 t' o' s' M)∧Below w.heap.size w w':=by
 by_cases h0:r=0
 ·refine (Drop20_own tv ov sv m sl g M r hM hr (by rw [←hr];exact h0) w h).mono ?_;rintro e w' ⟨t',o',s',rfl,h2,h3⟩
  exact ⟨t',o',s',by rw [h0],h2.rd,fun _=>h2,h3⟩
 ·refine (Drop20_any tv ov sv m sl g M r hM hr w h).mono ?_;rintro e w' ⟨t',o',s',rfl,h2,h3⟩
  exact ⟨t',o',s',rfl,h2,fun e=>absurd e h0,h3⟩
theorem Free20_u (tv ov sv:Value) (m:Mo) (sl g:Int) (M:Mo) (r:Int) (hM:M=freeM m sl g) (hr:r=freeE m sl g) (w:World) (h:Mod w tv ov sv m):
  Calls Tryz.prog 25 #[.agg #[tv,ov,sv],.agg #[.int .i64 sl,.int .i64 g]] w fun e w'=>∃t' o' s',e=.returned (.tuple #[.agg #[t',o',s'],.int .i64 r])∧Mod w' t' o' s' M∧(r=0→OwnM w' w.heap.size 37 t' o' s' M)∧Below w.heap.size w w':=by
 refine (Free20_own tv ov sv m sl g M r hM hr w h).mono ?_;rintro e w' ⟨t',o',s',rfl,h2,h3⟩
 exact ⟨t',o',s',rfl,h2.rd,fun _=>h2,h3⟩
theorem Set20_u (tv ov sv:Value) (m:Mo) (sl g n:Int) (x:UInt64) (M:Mo) (r:Int) (hM:M=setM m sl g n x) (hr:r=getE m sl g n) (w:World) (h:Mod w tv ov sv m):
  Calls Tryz.prog 27 #[.agg #[tv,ov,sv],.agg #[.int .i64 sl,.int .i64 g],.int .i64 n,.int .u64 x.toNat] w fun e w'=>∃t' o' s',e=.returned (.tuple #[.agg #[t',o',s'],.int .i64 r])∧Mod w' t' o' s' M∧(r=0→OwnM w' w.heap.size 37 t' o' s' M)∧Below w.heap.size w w':=by
 refine (Set20_own tv ov sv m sl g n x M r hM hr w h).mono ?_;rintro e w' ⟨t',o',s',rfl,h2,h3⟩
 exact ⟨t',o',s',rfl,h2.rd,fun _=>h2,h3⟩
theorem SetRef20_u (tv ov sv:Value) (m:Mo) (sl g n:Int) (pv:Value) (tt:Option (Int×Int)) (M:Mo) (r:Int) (hM:M=refM m sl g n tt) (hr:r=refE m sl g n tt) (w:World) (h:Mod w tv ov sv m) (hto:PtrH w pv tt):
  Calls Tryz.prog 29 #[.agg #[tv,ov,sv],.agg #[.int .i64 sl,.int .i64 g],.int .i64 n,pv] w fun e w'=>∃t' o' s',e=.returned (.tuple #[.agg #[t',o',s'],.int .i64 r])∧Mod w' t' o' s' M∧(r=0→OwnM w' w.heap.size 37 t' o' s' M)∧Below w.heap.size w w':=by
 refine (SetRef20_own tv ov sv m sl g n pv tt M r hM hr w h hto).mono ?_;rintro e w' ⟨t',o',s',rfl,h2,h3⟩
 exact ⟨t',o',s',rfl,h2.rd,fun _=>h2,h3⟩
theorem Root20_u (tv ov sv:Value) (m:Mo) (sl g n:Int) (M:Mo) (r hs hg:Int) (hM:M=rootM m sl g n) (hr:r=rootE m sl g n) (hhs:hs=rootS m sl g n) (hhg:hg=rootG m sl g n) (w:World) (h:Mod w tv ov sv m):
  Calls Tryz.prog 31 #[.agg #[tv,ov,sv],.agg #[.int .i64 sl,.int .i64 g],.int .i64 n] w fun e w'=>∃t' o' s',e=.returned (.tuple #[.agg #[t',o',s'],.agg #[.int .i64 hs,.int .i64 hg],.int .i64 r])∧Mod w' t' o' s' M∧(r=0→OwnM w' w.heap.size 37 t' o' s' M)∧Below w.heap.size w w':=by
 refine (Root20_own tv ov sv m sl g n M r hs hg hM hr hhs hhg w h).mono ?_;rintro e w' ⟨t',o',s',rfl,h2,h3⟩
 exact ⟨t',o',s',rfl,h2.rd,fun _=>h2,h3⟩
theorem Alloc20_u (tv ov sv:Value) (m:Mo) (t:Int) (M:Mo) (r hs hg:Int) (hM:M=allM m t) (hr:r=allE m t) (hhs:hs=allS m t) (hhg:hg=allG m t) (w:World) (h:Mod w tv ov sv m):
  Calls Tryz.prog 20 #[.agg #[tv,ov,sv],.int .i64 t] w fun e w'=>∃t' o' s',e=.returned (.tuple #[.agg #[t',o',s'],.agg #[.int .i64 hs,.int .i64 hg],.int .i64 r])∧Mod w' t' o' s' M∧(r=0→OwnM w' w.heap.size 37 t' o' s' M)∧Below w.heap.size w w':=by
 refine (Alloc20_own tv ov sv m t M r hs hg hM hr hhs hhg w h).mono ?_;rintro e w' ⟨t',o',s',rfl,h2,h3⟩
 exact ⟨t',o',s',rfl,h2.rd,fun _=>h2,h3⟩
end
section
open Go.RowKit L02 L07 L14 L15
theorem Ordered_any (v ev:Value) (l:List UInt64) (E:List (Int×UInt64)) (hE:∀(j:Nat) e,E[j]?=some e→96≤e.1∧e.1<l.length∧e.1≤100000) (hO:∀(j:Nat) e f,E[j]?=some e→E[j+1]?=some f→e.1<f.1) (hm:E.length≤12) (w:World) (h:Words w v l) (he:Ents w ev E):
  Calls Tryz.prog 36 #[v,ev,.int .i64 12] w fun e w'=>e=.returned (.bool true)∧Below w.heap.size w w':=by
 have B:=Below.refl w.heap.size w;have ll:=Rd.len h Tryz.underlying22;have le:=Rd.len he Tryz.underlying71;obtain ⟨N,hN⟩:=exq E.length;obtain ⟨LL,hLL⟩:=exq l.length;rw [←hN] at le hm;rw [←hLL] at ll hE;have HN:=hD hN;have HE:=hD hE;have HO:=hD hO;have HR:=hD he;clear h he hE hO hN hLL;have HB:=hD B;go_in;go_wp2
 go_loopg [7] N (fun g i wr=>∃j:Nat,j≤N∧g=N-j∧i=.int .i64 j∧Hid (Below w.heap.size w wr))
 case atStart=>exact ⟨0,by omega,by omega,rfl,HB⟩
 case round=>
  obtain ⟨j,hj,rfl,rfl,hh⟩:=hrel;clear HB B;by_cases hlt:j<N
  ·obtain ⟨b,o,a,x,ia,m1,m2,hx⟩:=(Ents.below HR.out hh.out).at_ (k:=j) (by rw [←HN.out];exact hlt)
   obtain ⟨e1,e2,e3⟩:=HE.out j _ hx.out;dsimp only at e1 e2 e3;have t1:decide (a<16)=false:=decide_eq_false (by omega)
   have t2:decide (24≤a)=true:=decide_eq_true (by omega)
   have t3:decide (a<96)=false:=decide_eq_false (by omega)
   have t4:decide ((LL:Int)≤a)=false:=decide_eq_false (by omega)
   clear m2;by_cases hj0:j=0
   ·have t5:decide (0<j)=false:=decide_eq_false (by omega)
    clear hx e1 e2 e3 hj0;go_wp2
    go_roundg (N-(j+1))
    case measure=>omega
    case rel=>exact ⟨j+1,by omega,rfl,by go_num,hh⟩
   ·obtain ⟨i,hi⟩:∃i,j=i+1:=⟨j-1,by omega⟩
    obtain ⟨b',o',a',x',ia',m3,m4,hx'⟩:=(Ents.below HR.out hh.out).at_ (k:=i) (by rw [←HN.out];omega)
    have hx2:=hx.out;rw [hi] at hx2;have e4:=HO.out i _ _ hx'.out hx2;dsimp only at e4;have t5:decide (0<j)=true:=decide_eq_true (by omega)
    have t6:decide (a≤a')=false:=decide_eq_false (by omega)
    have wi:IntKind.i64.wrap ((j:Int)-1)=(i:Int):=by rw [show (j:Int)-1=(i:Int) by omega];exact IntWalk.i64_in _ (by omega)
    clear hx hx' hx2 e1 e2 e3 e4 m4 hj0 hi;go_wp2
    go_roundg (N-(j+1))
    case measure=>omega
    case rel=>exact ⟨j+1,by omega,rfl,by go_num,hh⟩
  ·obtain rfl:j=N:=by omega
   have B:=hh.out;have t1:decide ((j:Int)≤12)=true:=decide_eq_true (by omega)
   go_wp2
   go_ret
   exact ⟨rfl,B⟩
end
end Go.Proofs.YteejianjjpdimaaGreat
