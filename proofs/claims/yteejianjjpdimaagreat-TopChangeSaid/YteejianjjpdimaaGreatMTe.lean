/- Contracts of the functions that the laws 'T' reach, part 5. No condition. -/
import Derived.Test.YteejianjjpdimaaGreatMTd
set_option linter.unusedVariables false
set_option linter.unusedSimpArgs false
set_option maxRecDepth 100000
set_option maxHeartbeats 8000000
namespace Go.Proofs.YteejianjjpdimaaGreat
section
open Go Go.RowKit
section
variable {P:Program} {ops:Array Oper} {md:Region.Mode} {C:Array Bool→World→Prop}
def uponF (P:Program) (Post:World→Prop) (v:Value):Result Next→Prop
 | .ok (.value u) w'=>u=v∧Post w'
 | .ok .skip w'=>v=undef∧Post w'
 | .ok (.enter f args) w'=>Calls P f args w' (fun e w''=>e=.returned v∧Post w'')
 | _=>False
def YieldsF (P:Program) (md:Region.Mode) (ops:Array Oper) (C:Array Bool→World→Prop) (i:Nat) (o:Oper) (v:Value) (a:Act):Prop:=
 (Region.wanted o (yielded ops a.tmps)=true∧∀listed w,i∈Region.ready md ops listed→C listed w→uponF P (C (listed.setIfInBounds i true)) v ((execOp a.eval o).run P w))∨
 (Region.wanted o (yielded ops a.tmps)=false∧v=undef∧∀listed w,i∈Region.ready md ops listed→C listed w→C (listed.setIfInBounds i true) w)
def qOpF (P:Program) (md:Region.Mode) (ops:Array Oper) (C:Array Bool→World→Prop) (i:Nat) (K:Act→Prop) (a:Act):Prop:=
 match ops[i]? with
 | none=>False
 | some o=>∃v,YieldsF P md ops C i o v a∧K (a.put o.dst v)
theorem qOpF_mono {i:Nat} {a:Act} {K K':Act→Prop} (h:∀a,K a→K' a) (hh:qOpF P md ops C i K a):qOpF P md ops C i K' a:=by
 unfold qOpF at *;split
 ·rename_i ho;simp only [ho] at hh
 ·rename_i o ho;simp only [ho] at hh;obtain ⟨v,h1,h2⟩:=hh;exact ⟨v,h1,h _ h2⟩
def wpAnyF (P:Program) (md:Region.Mode) (ops:Array Oper) (C:Array Bool→World→Prop) (Q:Array Bool→Act→Prop):Nat→Array Bool→Act→Prop
 | 0,listed,a=>Region.ready md ops listed=[]∧Q listed a
 | fuel+1,listed,a=>
  (Region.ready md ops listed=[]→Q listed a)∧
  ∀i∈Region.ready md ops listed,qOpF P md ops C i (wpAnyF P md ops C Q fuel (listed.setIfInBounds i true)) a
theorem wpOp_of_qOpF {i:Nat} {a:Act} {listed:Array Bool} {K:Act→Prop} {K':Act→World→Prop} {Q':Exit→Act→World→Prop} {w:World} (hl:i∈Region.ready md ops listed) (hC:C listed w)
  (h:∀a w',C (listed.setIfInBounds i true) w'→K a→K' a w') (hh:qOpF P md ops C i K a):wpOp P ops Q' i K' a w:=by
 unfold qOpF at hh;unfold wpOp;split
 ·rename_i ho;simp only [ho] at hh
 ·rename_i o ho;simp only [ho] at hh;obtain ⟨v,hy,h2⟩:=hh;rcases hy with ⟨hw,hv⟩ | ⟨hw,rfl,hv⟩
  ·rw [if_pos hw]
   left;have h3:=hv listed w hl hC;unfold Oper.wp
   generalize (execOp a.eval o).run P w=r at*
   cases r with
   | ok n w'=>
    cases n <;> simp only [uponF] at h3 <;> simp only [Oper.upon]
    case value u=>obtain ⟨e1,e2⟩:=h3;rw [e1];exact h _ _ e2 h2
    case skip=>obtain ⟨e1,e2⟩:=h3;rw [←e1];exact h _ _ e2 h2
    case enter f args=>exact h3.mono fun e w'' ⟨he,hw''⟩=>by subst he;exact h _ _ hw'' h2
   | halt x w'=>simp only [uponF] at h3
  ·rw [if_neg (by rw [hw];exact Bool.false_ne_true)]
   exact h _ _ (hv listed w hl hC) h2
theorem wpAny_of_F {Q:Array Bool→Act→Prop} {Q':Exit→Act→World→Prop} (hQ:∀listed a w,C listed w→Q listed a→Q' .normal a w):∀(fuel:Nat) (listed:Array Bool) (a:Act) (w:World),C listed w→
  wpAnyF P md ops C Q fuel listed a→wpAny P md ops Q' fuel listed a w
 | 0,_,_,_,hw,h=>⟨h.1,hQ _ _ _ hw h.2⟩
 | fuel+1,listed,_,_,hw,h=>⟨fun h0=>hQ _ _ _ hw (h.1 h0),fun i hi=>wpOp_of_qOpF hi hw (fun a' w' hw'=>wpAny_of_F hQ fuel _ a' w' hw') (h.2 i hi)⟩
theorem YieldsF.of_same {i:Nat} {o:Oper} {v:Value} {a a':Act} (hy:YieldsF P md ops C i o v a) (he:execOp a'.eval o=execOp a.eval o)
  (hw:Region.wanted o (yielded ops a'.tmps)=Region.wanted o (yielded ops a.tmps)):YieldsF P md ops C i o v a':=by
 unfold YieldsF at *;rw [he,hw]
 exact hy
theorem qOpF_put {i j:Nat} {oi oj:Oper} {v:Value} (hj:ops[j]?=some oj) (hap:oi.apart ops oj=true)
  (hsi:∀cs b,oi.op≠.select cs b) (hsj:∀cs b,oj.op≠.select cs b) {K:Act→Prop} {a:Act}
  (hy:YieldsF P md ops C i oi v a) (h:qOpF P md ops C j K (a.put oi.dst v)):
  qOpF P md ops C j (fun a'=>YieldsF P md ops C i oi v a'∧K (a'.put oi.dst v)) a:=by
 obtain ⟨h1,h2,h3⟩:=Oper.apart_spec hap;unfold qOpF at *;simp only [hj] at *;obtain ⟨u,hu,hn⟩:=h;refine ⟨u,hu.of_same ?_ ?_,hy.of_same ?_ ?_,?_⟩
 ·exact (execOp_put oj hsj a oi.dst v h1).symm
 ·exact (wanted_put oj a oi.dst v h1).symm
 ·exact execOp_put oi hsi a oj.dst u h3
 ·exact wanted_put oi a oj.dst u h3
 ·rw [←Act.put_comm a v u h2];exact hn
theorem wpAnyF_first {Q:Array Bool→Act→Prop} {i:Nat} {oi:Oper} {v:Value} (hi:ops[i]?=some oi) (hsel:∀(j:Nat) (o:Oper) cs b,ops[j]?=some o→o.op≠.select cs b):
  ∀(fuel:Nat) (listed:Array Bool) (a:Act),
   (∀j oj,ops[j]?=some oj→j≠i→listed.getD j true=false→(∀e∈oj.after,Region.binds md e=true→e.on≠i)→oi.apart ops oj=true)→
   i∈Region.ready md ops listed→YieldsF P md ops C i oi v a→
   wpAnyF P md ops C Q fuel (listed.setIfInBounds i true) (a.put oi.dst v)→wpAnyF P md ops C Q (fuel+1) listed a:=by
 intro fuel;induction fuel with
 | zero=>
  intro listed a _ hr hy H;refine ⟨fun h=>(by rw [h] at hr;cases hr),fun j hj=>?_⟩
  by_cases hji:j=i
  ·subst hji;unfold qOpF;simp only [hi]
   exact ⟨v,hy,H⟩
  ·have:=ready_mono hj hji;rw [H.1] at this;cases this
 | succ fuel ih=>
  intro listed a hfree hr hy H;refine ⟨fun h=>(by rw [h] at hr;cases hr),fun j hj=>?_⟩
  by_cases hji:j=i
  ·subst hji;unfold qOpF;simp only [hi]
   exact ⟨v,hy,H⟩
  ·have h1:=H.2 j (ready_mono hj hji)
   obtain ⟨hjun,oj,hoj,hall⟩:=mem_ready.1 hj;have hnot:∀e∈oj.after,Region.binds md e=true→e.on≠i:=fun e he hb heq=>by
    have h1:=hall e he hb;have h0:=(mem_ready.1 hr).1;rw [heq] at h1;rcases Nat.lt_or_ge i listed.size with h' | h'
    ·simp [h'] at h0 h1;rw [h0] at h1;cases h1
    ·simp [Array.getElem?_eq_none h'] at h1
   have h2:=qOpF_put hoj (hfree j oj hoj hji hjun hnot) (fun cs b=>hsel i oi cs b hi) (fun cs b=>hsel j oj cs b hoj) hy h1;have hfree':∀k ok,ops[k]?=some ok→k≠i→(listed.setIfInBounds j true).getD k true=false→
     (∀e∈ok.after,Region.binds md e=true→e.on≠i)→oi.apart ops ok=true:=fun k ok hk hki hun hno=>by
    refine hfree k ok hk hki ?_ hno;by_cases hjk:j=k
    ·subst hjk;exact hjun
    ·rw [getD_set_ne true hjk] at hun;exact hun
   refine qOpF_mono (fun a' h3=>ih (listed.setIfInBounds j true) a' hfree' (ready_mono hr (Ne.symm hji)) h3.1 ?_) h2;rw [Array.setIfInBounds_comm _ _ hji]
   exact h3.2
def wpF (P:Program) (md:Region.Mode) (ops:Array Oper) (C:Array Bool→World→Prop) (Q:Act→Prop):List Oper→Nat→Act→Prop
 | [],_,a=>Q a
 | o :: rest,k,a=>∃v,YieldsF P md ops C k o v a∧wpF P md ops C Q rest (k+1) (a.put o.dst v)
def setAll:Nat→Nat→Array Bool→Array Bool
 | 0,_,l=>l
 | n+1,k,l=>setAll n (k+1) (l.setIfInBounds k true)
theorem wpAnyF_lex {Q:Array Bool→Act→Prop} (hs:Region.noSelect ops=true):∀(l:List Oper) (k:Nat) (listed:Array Bool) (a:Act),(∀j,l[j]?=ops[k+j]?)→
  Region.lexFrom md ops l.length k listed=true→wpF P md ops C (Q (setAll l.length k listed)) l k a→wpAnyF P md ops C Q l.length listed a
 | [],_,_,_,_,hB,h=>⟨by simpa [Region.lexFrom] using hB,h⟩
 | o :: l,k,listed,a,hl,hB,h=>by
  have h0:ops[k]?=some o:=by simpa using (hl 0).symm
  simp only [List.length_cons,Region.lexFrom,Bool.and_eq_true] at hB;obtain ⟨⟨hr,hf⟩,hB'⟩:=hB;obtain ⟨v,hy,hK⟩:=h;exact wpAnyF_first h0 (Region.noSelect_spec hs) l.length listed a (Region.free_spec h0 hf) (by simpa using hr) hy
   (wpAnyF_lex hs l (k+1) _ _ (fun j=>by have:=hl (j+1);simpa [Nat.add_assoc,Nat.add_comm 1 j] using this) hB' hK)
theorem wp_region_F {id:Nat} {Q:Exit→Act→World→Prop} {a:Act} {w:World} {l:List Oper} (C:Array Bool→World→Prop) (hm:P.follows .mixedOrders=true) (hB:Region.lexB .any l.toArray=true)
  (hC:C (Array.replicate l.length false) { w with drawn:=w.drawn+1 })
  (h:wpF P .any l.toArray C (fun a'=>∀w',C (setAll l.length 0 (Array.replicate l.length false)) w'→Q .normal a' w') l 0 a):(Code.region id l.toArray true).wp P Q a w:=by
 simp only [Region.lexB,Bool.and_eq_true] at hB;refine wp_region_any hm (wpAny_of_F (C:=C) (Q:=fun listed a'=>∀w',C listed w'→Q .normal a' w') (fun _ _ w' hw' h=>h w' hw') _ _ _ _ (by simpa using hC) ?_)
 have:=wpAnyF_lex (C:=C) (md:=.any) (Q:=fun listed a'=>∀w',C listed w'→Q .normal a' w') hB.1 l 0 (Array.replicate l.length false) a (by simp) (by simpa using hB.2) h;simpa using this
end
/-! two flagged operations, numbers j1, j2 (a number that no operation bears: none) -/
def isV:Op→Bool
 | .move _ | .assign _ | .pick .. | .build .. | .load .. | .binOp .. | .unOp .. | .convert .. | .slice .. | .fieldAddr .. | .field .. | .indexAddr .. | .index .. | .extract .. | .sliceToArrayPointer ..=>true
 | _=>false
theorem run_v {P:Program} {s:Sem Value} {w w':World} {n:Next} (h:(do pure (Next.value (←s)):Sem Next).run P w=.ok n w'):∃u,n=.value u:=by
 rw [Sem.run_bind] at h;cases hs:s.run P w with
 | ok u w1=>rw [hs] at h;simp [Result.andThen] at h;exact ⟨u,h.1.symm⟩
 | halt x w1=>rw [hs] at h;simp [Result.andThen] at h
theorem isV_value {P:Program} {o:Oper} {ev:Operand→Value} {w w':World} {n:Next} (hV:isV o.op=true) (h:(execOp ev o).run P w=.ok n w'):∃u,n=.value u:=by
 unfold execOp at h;cases ho:o.op <;> rw [ho] at h hV <;> simp only [isV,Bool.false_eq_true] at hV <;> dsimp only at h;case move x=>simp at h;exact ⟨_,h.1.symm⟩
 case assign x=>simp at h;exact ⟨_,h.1.symm⟩
 case pick c x y=>
  rw [Sem.run_bind] at h;cases hs:(asBool (ev c)).run P w with
  | ok u w1=>rw [hs] at h;simp [Result.andThen] at h;exact ⟨_,h.1.symm⟩
  | halt x w1=>rw [hs] at h;simp [Result.andThen] at h
 all_goals exact run_v h
structure FX (F:Bool→Bool→World→Prop) where
 W:World
 h:∃b1 b2,F b1 b2 W
section
variable {P:Program} {ops:Array Oper} {rest:List Oper} {o:Oper} {a:Act} {Q:Act→Prop} {F:Bool→Bool→World→Prop} {j1 j2 k:Nat} {md:Region.Mode}
theorem ready_after {i j:Nat} {oi:Oper} {listed:Array Bool} (hi:ops[i]?=some oi) (hd:(oi.after.any fun e=>Region.binds md e && e.on==j)=true) (hr:i∈Region.ready md ops listed):listed.getD j false=true:=by
 obtain ⟨_,o',ho',hall⟩:=mem_ready.1 hr
 have:o'=oi:=Option.some.inj (ho'.symm.trans hi)
 subst this;obtain ⟨e,he,hb⟩:=Array.any_eq_true'.1 hd;simp only [Bool.and_eq_true,beq_iff_eq] at hb;rw [←hb.2];exact hall e he hb.1
structure FX1 (F:Bool→Bool→World→Prop) where
 W:World
 h:∃b2,F true b2 W
theorem getD_on {listed:Array Bool} {i:Nat} (h:listed.getD i true=false):listed.getD i false=false∧(listed.setIfInBounds i true).getD i false=true:=by
 rcases Nat.lt_or_ge i listed.size with h' | h'
 ·simp [h'] at h ⊢;exact h
 ·simp [Array.getElem?_eq_none h'] at h
end
def FNew (w0:World) (t:TypeId) (cs:Array Value):Bool→Bool→World→Prop:=fun b1 _ W=>Below w0.heap.size w0 W∧(b1=false→W.heap.size=w0.heap.size)∧(b1=true→Bx W w0.heap.size t cs)
theorem FNew.start (w0:World) (t:TypeId) (cs:Array Value):FNew w0 t cs false false w0.drew:=⟨(Below.refl _ _).drew,fun _=>rfl,(fun h=>by cases h)⟩
theorem FNew.below {w0:World} {t:TypeId} {cs:Array Value} (x:FX (FNew w0 t cs)):Below w0.heap.size w0 x.W:=by obtain ⟨W,b1,b2,h⟩:=x;exact h.1
instance (w0:World) (t:TypeId) (cs:Array Value):Nonempty (FX (FNew w0 t cs)):=⟨⟨w0.drew,false,false,FNew.start w0 t cs⟩⟩
instance (w0:World) (t:TypeId) (cs:Array Value):Nonempty (FX1 (FNew w0 t cs)):=⟨⟨w0.alloc (.cells cs t),false,(Below.refl _ _).alloc (Nat.le_refl _) _,(fun h=>by cases h),fun _=>Bx.new _ _ _⟩⟩
theorem FNew.call {P:Program} {f:FuncId} {av:Array Value} {w0:World} {t:TypeId} {cs:Array Value} {n c:Nat}
  (h:∀W,Calls P f av W (fun e w'=>e=.returned (.slice (some ⟨W.heap.size,0,none⟩) n c)∧Bx w' W.heap.size t cs∧Below W.heap.size W w')) (b2:Bool) (W:World) (hW:FNew w0 t cs false b2 W):
  Calls P f av W (fun e W'=>e=.returned (.slice (some ⟨w0.heap.size,0,none⟩) n c)∧FNew w0 t cs true b2 W'):=by
 have hz:=hW.2.1 rfl;refine (h W).mono fun e w' ⟨h1,h2,h3⟩=>?_;rw [hz] at h1 h2;exact ⟨h1,hW.1.trans (h3.mono (by rw [hz];exact Nat.le_refl _)),(fun h=>by cases h),fun _=>h2⟩
end
section
open Go Go.RowKit
def CN (F:(Nat→Bool)→World→Prop):Array Bool→World→Prop:=fun listed W=>F (fun j=>listed.getD j false) W
def Dep (F:(Nat→Bool)→World→Prop) (js:List Nat):Prop:=∀f g W,(∀j∈js,f j=g j)→F f W→F g W
structure FXN (F:(Nat→Bool)→World→Prop) where
 W:World
 h:∃f,F f W
section
variable {P:Program} {ops:Array Oper} {rest:List Oper} {o:Oper} {a:Act} {Q:Act→Prop} {F:(Nat→Bool)→World→Prop} {js:List Nat} {k:Nat} {md:Region.Mode}
theorem CN.skip (hD:Dep F js) (hk:k∉js) {listed:Array Bool} {W:World} (hW:CN F listed W):CN F (listed.setIfInBounds k true) W:=by
 refine hD _ _ _ (fun j hj=>?_) hW;have hne:k≠j:=fun e=>hk (e ▸ hj)
 rw [getD_set_ne false hne]
theorem wpN_read (hD:Dep F js) (hV:isV o.op=true) (hk:k∉js) (h:wpQuiet P ops (fun W=>∃x:FXN F,W=x.W) (fun a'=>wpF P md ops (CN F) Q rest (k+1) a') [o] a):wpF P md ops (CN F) Q (o :: rest) k a:=by
 unfold wpQuiet at h;split at h
 ·rename_i hw;obtain ⟨v,h1,h2⟩:=h;refine ⟨v,.inl ⟨hw,fun listed W hl hW=>?_⟩,h2⟩
  have h3:=h1 W ⟨⟨W,_,hW⟩,rfl⟩
  unfold Oper.quietAt at h3;cases hr:(execOp a.eval o).run P W with
  | ok n w'=>
   obtain ⟨u,rfl⟩:=isV_value hV hr;rw [hr] at h3;simp only [Oper.quietUpon] at h3;simp only [uponF]
   obtain ⟨e1,e2⟩:=h3;subst e1;exact ⟨e2,hW.skip hD hk⟩
  | halt x w'=>rw [hr] at h3;simp only [Oper.quietUpon] at h3
 ·rename_i hw;exact ⟨undef,.inr ⟨by simpa using hw,rfl,fun listed W hl hW=>hW.skip hD hk⟩,h⟩
theorem wpN_store (hD:Dep F js) (ty:TypeId) (x y:Operand) (ho:o.op=.store ty x y) (hw:Region.wanted o (yielded ops a.tmps)=true) {p u:Value} (hx:a.eval x=p) (hy:a.eval y=u)
  (hs:∀f W,F f W→∃W',(Instr.storeAt ty p u).run P W=.ok () W'∧F (fun i=>i==k || f i) W') (h:wpF P md ops (CN F) Q rest (k+1) (a.put o.dst undef)):wpF P md ops (CN F) Q (o :: rest) k a:=by
 refine ⟨undef,.inl ⟨hw,fun listed W hl hW=>?_⟩,h⟩
 obtain ⟨W',h1,h2⟩:=hs _ W hW;unfold execOp;simp only [ho,hx,hy,Sem.run_bind,h1,Result.andThen_ok,Sem.run_pure,uponF,true_and]
 refine hD _ _ _ (fun j hj=>?_) h2;by_cases hjk:j=k
 ·subst hjk;rw [(getD_on (mem_ready.1 hl).1).2];simp
 ·have hne:k≠j:=Ne.symm hjk;rw [getD_set_ne false hne];simp [hjk]
end
theorem wp_region_N {P:Program} {id:Nat} {Q:Exit→Act→World→Prop} {a:Act} {w:World} {l:List Oper} (F:(Nat→Bool)→World→Prop) (js:List Nat) (hD:Dep F js) (hm:P.follows .mixedOrders=true) (hB:Region.lexB .any l.toArray=true)
  (hf:(js.all fun j=>(setAll l.length 0 (Array.replicate l.length false)).getD j false)=true)
  (hC:F (fun _=>false) w.drew)
  (h:wpF P .any l.toArray (CN F) (fun a'=>∀w',F (fun _=>true) w'→Q .normal a' w') l 0 a):(Code.region id l.toArray true).wp P Q a w:=by
 have e:∀j,(Array.replicate l.length false).getD j false=false:=fun j=>getD_replicate_false _ _;refine wp_region_F (CN F) hm hB ?_ ?_
 ·exact hD _ _ _ (fun j _=>(e j).symm) hC
 ·have e2:∀w',CN F (setAll l.length 0 (Array.replicate l.length false)) w'→F (fun _=>true) w':=fun w' h'=>hD _ _ _ (fun j hj=>by simpa using List.all_eq_true.1 hf j hj) h';have mono:∀(r:List Oper) (k:Nat) (a':Act),wpF P .any l.toArray (CN F) (fun a'=>∀w',F (fun _=>true) w'→Q .normal a' w') r k a'→wpF P .any l.toArray (CN F) (fun a'=>∀w',CN F (setAll l.length 0 (Array.replicate l.length false)) w'→Q .normal a' w') r k a':=by
   intro r;induction r with
   | nil=>intro k a' h0 w' h';exact h0 w' (e2 w' h')
   | cons o r ih=>intro k a' h0;obtain ⟨v,h1,h2⟩:=h0;exact ⟨v,h1,ih _ _ h2⟩
  exact mono l 0 a h
end
section
open Go Go.RowKit
structure Bk where
 g:Nat
 t:TypeId
 k:Nat
 old:Array Value
 new:Array Value
def FBx (w0:World) (B:Nat) (L:List Bk):(Nat→Bool)→World→Prop:=fun f W=>Below B w0 W∧∀p∈L,Bx W p.g p.t (if f p.k=true then p.new else p.old)
section
variable {w0:World} {B:Nat} {L:List Bk} {js:List Nat}
theorem FBx.dep (h:∀p∈L,p.k∈js):Dep (FBx w0 B L) js:=by
 rintro f g W hfg ⟨h1,h2⟩
 exact ⟨h1,fun p hp=>by rw [←hfg p.k (h p hp)];exact h2 p hp⟩
theorem FBx.start {W:World} (h1:Below B w0 W) (h2:∀p∈L,Bx W p.g p.t p.old):FBx w0 B L (fun _=>false) W.drew:=⟨h1.drew,fun p hp=>by rw [if_neg (by simp)];exact h2 p hp⟩
theorem FBx.done {W:World} (h:FBx w0 B L (fun _=>true) W):Below B w0 W∧∀p∈L,Bx W p.g p.t p.new:=⟨h.1,fun p hp=>by have:=h.2 p hp;rwa [if_pos rfl] at this⟩
theorem FBx.cell (p:Bk) (hp:p∈L) (he:p.old=p.new) (x:FXN (FBx w0 B L)) (i:Nat):x.W.cell? ⟨p.g,i,none⟩=p.old[i]?:=by
 obtain ⟨W,f,h⟩:=x
 have:=h.2 p hp;rw [←he] at this;split at this <;> exact this.cell i
theorem FBx.base (x:FXN (FBx w0 B L)):Below B w0 x.W:=by obtain ⟨W,f,h⟩:=x;exact h.1
variable {P:Program} {k:Nat}
theorem FBx.step1 (p:Bk) (hp:p∈L) (hB:B≤p.g) (hk:p.k=k) {q:Nat} {u u0 u1:Value} (ho:p.old[q]?=some u0) (hn:p.new[q]?=some u1) (h1:p.old.setIfInBounds q u=p.new) (h2:p.new.setIfInBounds q u=p.new)
  (hoth:∀p'∈L,p'=p∨(p'.g≠p.g∧(p'.k≠k∨p'.old=p'.new))) {ty:TypeId}
  (hs:∀(W:World) (u0:Value),W.cell? ⟨p.g,q,none⟩=some u0→W.frozen? ⟨p.g,q,none⟩=false→(Instr.storeAt ty (.pointer (some ⟨p.g,q,none⟩)) u).run P W=.ok () (W.setCell ⟨p.g,q,none⟩ u))
  (f:Nat→Bool) (W:World) (h:FBx w0 B L f W):∃W',(Instr.storeAt ty (.pointer (some ⟨p.g,q,none⟩)) u).run P W=.ok () W'∧FBx w0 B L (fun i=>i==k || f i) W':=by
 have hb:=h.2 p hp;have hc:∃v,W.cell? ⟨p.g,q,none⟩=some v:=by
  rw [hb.cell];split
  ·exact ⟨_,hn⟩
  ·exact ⟨_,ho⟩
 obtain ⟨v,hc⟩:=hc;refine ⟨_,hs W v hc (hb.free q),h.1.setCell (p:=⟨p.g,q,none⟩) hB _,fun p' hp'=>?_⟩
 rcases hoth p' hp' with rfl | ⟨e1,e2⟩
 ·have:=hb.set (i:=q) u;rw [if_pos (by simp [hk])]
  split at this
  ·rwa [h2] at this
  ·rwa [h1] at this
 ·have:=(h.2 p' hp').far (p:=⟨p.g,q,none⟩) e1 u;rcases e2 with e2 | e2
  ·simp only [show (p'.k==k)=false by rw [beq_eq_false_iff_ne];exact e2,Bool.false_or];exact this
  ·rw [e2] at this ⊢;split at this <;> split <;> exact this
theorem FBx.stepRow (p:Bk) (hp:p∈L) (hB:B≤p.g) (hk:p.k=k) {q:Nat} {cells:Array Value} (ho:q+cells.size≤p.old.size) (hn:q+cells.size≤p.new.size) (h1:putL p.old q cells.toList=p.new) (h2:putL p.new q cells.toList=p.new)
  (hoth:∀p'∈L,p'=p∨(p'.g≠p.g∧(p'.k≠k∨p'.old=p'.new))) {ty:TypeId} (hi:(P.info? ty).map (·.size)=some cells.size) (hc1:cells.all (·.oneCell')=true)
  (f:Nat→Bool) (W:World) (h:FBx w0 B L f W):∃W',(Instr.storeAt ty (.pointer (some ⟨p.g,q,none⟩)) (.agg cells)).run P W=.ok () W'∧FBx w0 B L (fun i=>i==k || f i) W':=by
 have hb:=h.2 p hp;have ht:W.there p.g q cells.size:=fun j hj=>by
  refine ⟨?_,hb.free _⟩
  rw [hb.cell]
  split
  ·rw [Array.getElem?_eq_getElem (by omega)];rfl
  ·rw [Array.getElem?_eq_getElem (by omega)];rfl
 refine ⟨_,run_storeAt_mid (P:=P) W p.g q ty cells ht hi hc1,below_setCells hB _ _ _ h.1,fun p' hp'=>?_⟩
 rcases hoth p' hp' with rfl | ⟨e1,e2⟩
 ·have:=Bx.setCells cells.toList q hb;rw [if_pos (by simp [hk])]
  split at this
  ·rwa [h2] at this
  ·rwa [h1] at this
 ·have:=setCells_far e1 cells.toList q W (h.2 p' hp')
  rcases e2 with e2 | e2
  ·simp only [show (p'.k==k)=false by rw [beq_eq_false_iff_ne];exact e2,Bool.false_or];exact this
  ·rw [e2] at this ⊢;split at this <;> split <;> exact this
end
section
variable {P:Program} {ops:Array Oper} {rest:List Oper} {o:Oper} {a:Act} {Q:Act→Prop} {F:(Nat→Bool)→World→Prop} {js:List Nat} {k:Nat} {md:Region.Mode}
theorem wpN_len (hD:Dep F js) {x:Operand} {ats:Array TypeId} (ho:o.op=.call { callee:=.builtin .len,args:=#[x],argTypes:=ats }) (hk:k∉js) (hw:Region.wanted o (yielded ops a.tmps)=true) {v:Value}
  (hl:∀W,(Builtin.len_ ats o.type #[a.eval x]).run P W=.ok v W) (h:wpF P md ops (CN F) Q rest (k+1) (a.put o.dst v)):wpF P md ops (CN F) Q (o :: rest) k a:=by
 refine ⟨v,.inl ⟨hw,fun listed W hl' hW=>?_⟩,h⟩
 have:(execOp a.eval o).run P W=.ok (.value v) W:=by
  simp [execOp,ho,resolve,invoke,builtin,hl]
 rw [this]
 exact ⟨rfl,hW.skip hD hk⟩
theorem wpN_skip (hD:Dep F js) (hk:k∉js) (hw:Region.wanted o (yielded ops a.tmps)=false) (h:wpF P md ops (CN F) Q rest (k+1) (a.put o.dst undef)):wpF P md ops (CN F) Q (o :: rest) k a:=
 ⟨undef,.inr ⟨hw,rfl,fun listed W hl hW=>hW.skip hD hk⟩,h⟩
end
theorem store_bool {P:Program} {ty:TypeId} (hi:(P.info? ty).map (·.size)=some 1) (W:World) (ad:Addr) (u0:Value) (b:Bool) (hc:W.cell? ad=some u0) (hf:W.frozen? ad=false):(Instr.storeAt ty (.pointer (some ad)) (.bool b)).run P W=.ok () (W.setCell ad (.bool b)):=by
 obtain ⟨i,hi',e⟩:=Option.map_eq_some_iff.1 hi;simp [go_sem,hc,hf,sizeOf,typeInfo,hi',e]
theorem store_int {P:Program} {ty:TypeId} (hi:(P.info? ty).map (·.size)=some 1) (W:World) (ad:Addr) (u0:Value) (k:IntKind) (n:Int) (hc:W.cell? ad=some u0) (hf:W.frozen? ad=false):(Instr.storeAt ty (.pointer (some ad)) (.int k n)).run P W=.ok () (W.setCell ad (.int k n)):=by
 obtain ⟨i,hi',e⟩:=Option.map_eq_some_iff.1 hi;simp [go_sem,hc,hf,sizeOf,typeInfo,hi',e]
end
section
open Go Go.RowKit
section
variable {P:Program} {ops:Array Oper} {rest:List Oper} {o:Oper} {a:Act} {Q:Act→Prop} {F:(Nat→Bool)→World→Prop} {js:List Nat} {k:Nat} {md:Region.Mode}
theorem wpN_step (hD:Dep F js) (hi:ops[k]?=some o) (hw:Region.wanted o (yielded ops a.tmps)=true) {v:Value} (dep:List Nat) (hd:(dep.all fun j=>o.after.any fun e=>Region.binds md e && e.on==j)=true)
  (hs:∀f W,F f W→f k=false→(∀j∈dep,f j=true)→∃W',(execOp a.eval o).run P W=.ok (.value v) W'∧F (fun i=>i==k || f i) W') (h:wpF P md ops (CN F) Q rest (k+1) (a.put o.dst v)):wpF P md ops (CN F) Q (o :: rest) k a:=by
 refine ⟨v,.inl ⟨hw,fun listed W hl hW=>?_⟩,h⟩
 have hk:listed.getD k false=false:=by
  have h1:=(mem_ready.1 hl).1;rcases Nat.lt_or_ge k listed.size with h' | h'
  ·simp [h'] at h1 ⊢;exact h1
  ·simp [Array.getElem?_eq_none h'] at h1
 obtain ⟨W',h1,h2⟩:=hs _ W hW hk (fun j hj=>ready_after hi (List.all_eq_true.1 hd j hj) hl)
 rw [h1]
 refine ⟨rfl,hD _ _ _ (fun j hj=>?_) h2⟩
 by_cases hjk:j=k
 ·subst hjk;rw [(getD_on (mem_ready.1 hl).1).2];simp
 ·have hne:k≠j:=Ne.symm hjk;rw [getD_set_ne false hne];simp [hjk]
theorem wpN_pure (hD:Dep F js) (hk:k∉js) (hw:Region.wanted o (yielded ops a.tmps)=true) {v:Value} (hr:∀W,(execOp a.eval o).run P W=.ok (.value v) W) (h:wpF P md ops (CN F) Q rest (k+1) (a.put o.dst v)):wpF P md ops (CN F) Q (o :: rest) k a:=
 ⟨v,.inl ⟨hw,fun listed W hl hW=>by rw [hr W];exact ⟨rfl,hW.skip hD hk⟩⟩,h⟩
theorem run_append_rd {w:World} {t ty e B sz by_:Nat} {v lv z:Value} {n m:Nat} {xs ys:List Value} (ht:P.underlying t=some (.slice e))
  (hi:(P.info? e).map (fun i=>(i.zero,i.size,i.bytes))=some (some z,sz,by_)) (hzs:z.cells.size=sz) (hsz:0<sz)
  (hown:w.ownsRow B e sz v n xs) (hrd:Rd w sz lv m ys) (h1:∀u∈ys,u.oneCell'=true) (h63:n+m≤9223372036854775807) (hbytes:(n+m)*by_≤140737488355328) (hB:B≤w.heap.size):
  ∃v' w',(Builtin.append_ #[t,t] ty #[v,lv]).run P w=.ok v' w'∧w'.ownsRow B e sz v' (n+m) (xs++ys)∧w.grownBy w' v.ownBlock:=by
 obtain ⟨i,hi1,hi2,hi3,hi4⟩:=info3 hi;obtain ⟨A,c,rfl,s1,s2,s3,s4,s5⟩:=hrd;rcases A with _ | ad
 ·have hc:=s4 rfl;have hm:m=0:=by omega
  subst hc;subst hm;have hy:ys=[]:=List.eq_nil_of_length_eq_zero (by simpa using s3)
  subst hy;exact ⟨v,w,run_append_owned_none (P:=P) w B t ty e i sz ht hi1 v n xs hown,by simpa using hown,World.grownBy.refl w _⟩
 ·obtain ⟨b,q,sp⟩:=ad;have hcell:∀j u,ys[j]?=some u→w.cell? ((⟨b,q,sp⟩:Addr).add j)=some u:=by
   intro j u hu;have hm:0<m:=by
    rcases Nat.eq_zero_or_pos m with h0 | h0
    ·subst h0
     have:ys=[]:=List.eq_nil_of_length_eq_zero (by simpa using s3)
     subst this;simp at hu
    ·exact h0
   obtain ⟨p1,p2,p3⟩:=s5 hm _ rfl;simp at p1;subst p1;rw [show ((⟨b,q,none⟩:Addr).add j)=⟨b,q+j,none⟩ by unfold Addr.add;split <;> simp_all]
   exact p3 j u hu
  obtain ⟨v',w',hrun,r1,r2,_⟩:=run_append_own (P:=P) w B t ty e i z sz by_ ht hi1 hi2 hi3 hi4 hzs hsz v n xs hown ⟨b,q,sp⟩ m c ys s3 hcell h1 (by unfold maxLen;omega) hbytes hB;exact ⟨v',w',hrun,r1,r2⟩
end
def FCh (k1 k2 k3 k4:Nat) (W0 W1 W2 W3 W4:World):(Nat→Bool)→World→Prop:=fun f W=>
 (f k2=true→f k1=true)∧(f k3=true→f k2=true)∧(f k4=true→f k3=true)∧W=(if f k4=true then W4 else if f k3=true then W3 else if f k2=true then W2 else if f k1=true then W1 else W0)
section
variable {k1 k2 k3 k4:Nat} {W0 W1 W2 W3 W4:World}
theorem FCh.dep:Dep (FCh k1 k2 k3 k4 W0 W1 W2 W3 W4) [k1,k2,k3,k4]:=by
 rintro f g W hfg ⟨h1,h2,h3,h4⟩
 have e1:=hfg k1 (by simp);have e2:=hfg k2 (by simp);have e3:=hfg k3 (by simp);have e4:=hfg k4 (by simp)
 rw [e1,e2] at h1;rw [e2,e3] at h2;rw [e3,e4] at h3;rw [e1,e2,e3,e4] at h4;exact ⟨h1,h2,h3,h4⟩
theorem FCh.start:FCh k1 k2 k3 k4 W0 W1 W2 W3 W4 (fun _=>false) W0:=⟨by simp,by simp,by simp,by simp⟩
theorem FCh.done {W:World} (h:FCh k1 k2 k3 k4 W0 W1 W2 W3 W4 (fun _=>true) W):W=W4:=by have:=h.2.2.2;simpa using this
theorem no_of {b c:Bool} (h:b=true→c=true) (hc:c=false):b=false:=by cases b;rfl;rw [h rfl] at hc;cases hc
theorem FCh.s1 (hk:k1≠k2∧k1≠k3∧k1≠k4) {f:Nat→Bool} {W:World} (h:FCh k1 k2 k3 k4 W0 W1 W2 W3 W4 f W) (h0:f k1=false):W=W0∧FCh k1 k2 k3 k4 W0 W1 W2 W3 W4 (fun i=>i==k1 || f i) W1:=by
 obtain ⟨a1,a2,a3,a4⟩:=h;have b2:=no_of a1 h0;have b3:=no_of a2 b2;have b4:=no_of a3 b3;refine ⟨by rw [a4];simp [h0,b2,b3,b4],by simp,?_,?_,?_⟩
 ·simp only [b3,Bool.or_false];intro h;rw [beq_iff_eq] at h;exact absurd h.symm hk.2.1
 ·simp only [b4,Bool.or_false];intro h;rw [beq_iff_eq] at h;exact absurd h.symm hk.2.2
 ·have e2:(k2==k1)=false:=by rw [beq_eq_false_iff_ne];exact hk.1.symm
  have e3:(k3==k1)=false:=by rw [beq_eq_false_iff_ne];exact hk.2.1.symm
  have e4:(k4==k1)=false:=by rw [beq_eq_false_iff_ne];exact hk.2.2.symm
  simp [b2,b3,b4,e2,e3,e4]
theorem FCh.s2 (hk:k2≠k1∧k2≠k3∧k2≠k4) {f:Nat→Bool} {W:World} (h:FCh k1 k2 k3 k4 W0 W1 W2 W3 W4 f W) (h0:f k2=false) (h1:f k1=true):W=W1∧FCh k1 k2 k3 k4 W0 W1 W2 W3 W4 (fun i=>i==k2 || f i) W2:=by
 obtain ⟨a1,a2,a3,a4⟩:=h;have b3:=no_of a2 h0;have b4:=no_of a3 b3;have e1:(k1==k2)=false:=by rw [beq_eq_false_iff_ne];exact hk.1.symm
 have e3:(k3==k2)=false:=by rw [beq_eq_false_iff_ne];exact hk.2.1.symm
 have e4:(k4==k2)=false:=by rw [beq_eq_false_iff_ne];exact hk.2.2.symm
 exact ⟨by rw [a4];simp [h0,h1,b3,b4],by simp [h1],by simp,by simp [b4,e4],by simp [b3,b4,e3,e4]⟩
theorem FCh.s3 (hk:k3≠k1∧k3≠k2∧k3≠k4) {f:Nat→Bool} {W:World} (h:FCh k1 k2 k3 k4 W0 W1 W2 W3 W4 f W) (h0:f k3=false) (h1:f k2=true):W=W2∧FCh k1 k2 k3 k4 W0 W1 W2 W3 W4 (fun i=>i==k3 || f i) W3:=by
 obtain ⟨a1,a2,a3,a4⟩:=h;have b4:=no_of a3 h0;have e4:(k4==k3)=false:=by rw [beq_eq_false_iff_ne];exact hk.2.2.symm
 exact ⟨by rw [a4];simp [h0,h1,b4],by simp [a1 h1],by simp [h1],by simp,by simp [b4,e4]⟩
theorem FCh.s4 (hk:k4≠k1∧k4≠k2∧k4≠k3) {f:Nat→Bool} {W:World} (h:FCh k1 k2 k3 k4 W0 W1 W2 W3 W4 f W) (h0:f k4=false) (h1:f k3=true):W=W3∧FCh k1 k2 k3 k4 W0 W1 W2 W3 W4 (fun i=>i==k4 || f i) W4:=by
 obtain ⟨a1,a2,a3,a4⟩:=h;exact ⟨by rw [a4];simp [h0,h1],by simp [a1 (a2 h1)],by simp [a2 h1],by simp [h1],by simp⟩
end
def FC3 (k1 k2 k3:Nat) (W0 W1 W2 W3:World):(Nat→Bool)→World→Prop:=fun f W=>
 (f k2=true→f k1=true)∧(f k3=true→f k2=true)∧W=(if f k3=true then W3 else if f k2=true then W2 else if f k1=true then W1 else W0)
section
variable {k1 k2 k3:Nat} {W0 W1 W2 W3:World}
theorem FC3.dep:Dep (FC3 k1 k2 k3 W0 W1 W2 W3) [k1,k2,k3]:=by
 rintro f g W hfg ⟨h1,h2,h4⟩
 have e1:=hfg k1 (by simp);have e2:=hfg k2 (by simp);have e3:=hfg k3 (by simp)
 rw [e1,e2] at h1;rw [e2,e3] at h2;rw [e1,e2,e3] at h4;exact ⟨h1,h2,h4⟩
theorem FC3.start:FC3 k1 k2 k3 W0 W1 W2 W3 (fun _=>false) W0:=⟨by simp,by simp,by simp⟩
theorem FC3.done {W:World} (h:FC3 k1 k2 k3 W0 W1 W2 W3 (fun _=>true) W):W=W3:=by have:=h.2.2;simpa using this
theorem FC3.s1 (hk:k1≠k2∧k1≠k3) {f:Nat→Bool} {W:World} (h:FC3 k1 k2 k3 W0 W1 W2 W3 f W) (h0:f k1=false):W=W0∧FC3 k1 k2 k3 W0 W1 W2 W3 (fun i=>i==k1 || f i) W1:=by
 obtain ⟨a1,a2,a4⟩:=h;have b2:=no_of a1 h0;have b3:=no_of a2 b2;have e2:(k2==k1)=false:=by rw [beq_eq_false_iff_ne];exact hk.1.symm
 have e3:(k3==k1)=false:=by rw [beq_eq_false_iff_ne];exact hk.2.symm
 exact ⟨by rw [a4];simp [h0,b2,b3],by simp,by simp [b3,e3],by simp [b2,b3,e2,e3]⟩
theorem FC3.s2 (hk:k2≠k1∧k2≠k3) {f:Nat→Bool} {W:World} (h:FC3 k1 k2 k3 W0 W1 W2 W3 f W) (h0:f k2=false) (h1:f k1=true):W=W1∧FC3 k1 k2 k3 W0 W1 W2 W3 (fun i=>i==k2 || f i) W2:=by
 obtain ⟨a1,a2,a4⟩:=h;have b3:=no_of a2 h0;have e3:(k3==k2)=false:=by rw [beq_eq_false_iff_ne];exact hk.2.symm
 exact ⟨by rw [a4];simp [h0,h1,b3],by simp [h1],by simp,by simp [b3,e3]⟩
theorem FC3.s3 (hk:k3≠k1∧k3≠k2) {f:Nat→Bool} {W:World} (h:FC3 k1 k2 k3 W0 W1 W2 W3 f W) (h0:f k3=false) (h1:f k2=true):W=W2∧FC3 k1 k2 k3 W0 W1 W2 W3 (fun i=>i==k3 || f i) W3:=by
 obtain ⟨a1,a2,a4⟩:=h;exact ⟨by rw [a4];simp [h0,h1],by simp [a1 h1],by simp [h1],by simp⟩
end
end
section
open Go Go.RowKit
def FL (ks:List Nat) (Ws:Nat→World) (r m:Nat):(Nat→Bool)→World→Prop:=fun f W=>
 ∃d,d≤ks.length∧(∀i k,ks[i]?=some k→f k=decide (i<d))∧W=Ws d∧(m<d→f r=true)
section
variable {ks:List Nat} {Ws:Nat→World} {r m:Nat}
theorem FL.dep:Dep (FL ks Ws r m) (r :: ks):=by
 rintro f g W hfg ⟨d,h1,h2,h3,h4⟩
 refine ⟨d,h1,fun i k hk=>?_,h3,fun hm=>?_⟩
 ·rw [←hfg k (List.mem_cons_of_mem _ (List.mem_of_getElem? hk))];exact h2 i k hk
 ·rw [←hfg r List.mem_cons_self];exact h4 hm
theorem FL.start:FL ks Ws r m (fun _=>false) (Ws 0):=⟨0,Nat.zero_le _,fun i k _=>by simp,rfl,fun h=>by omega⟩
theorem FL.done {W:World} (h:FL ks Ws r m (fun _=>true) W):W=Ws ks.length:=by
 obtain ⟨d,h1,h2,h3,h4⟩:=h;rw [h3]
 congr 1;by_cases hd:d=ks.length
 ·exact hd
 ·have hlt:d<ks.length:=by omega
  have:=h2 d ks[d] (List.getElem?_eq_getElem hlt)
  simp at this
theorem FL.step {i k:Nat} (hk:ks[i]?=some k) (hn:ks.Nodup) {f:Nat→Bool} {W:World} (h:FL ks Ws r m f W) (h0:f k=false) (hp:∀p,i=p+1→∀k',ks[p]?=some k'→f k'=true) (hm:i=m→f r=true):
  W=Ws i∧FL ks Ws r m (fun j=>j==k || f j) (Ws (i+1)):=by
 obtain ⟨d,h1,h2,h3,h4⟩:=h;have hil:i<ks.length:=(List.getElem?_eq_some_iff.1 hk).1;have hd1:¬i<d:=by have:=h2 i k hk;rw [h0] at this;simpa using this.symm
 have hd2:i≤d:=by
  rcases i with _ | p
  ·omega
  ·have hp':ks[p]?=some ks[p]:=List.getElem?_eq_getElem (by omega)
   have e1:=hp p rfl _ hp';rw [h2 p _ hp'] at e1
   have:=of_decide_eq_true e1;omega
 obtain rfl:d=i:=by omega
 refine ⟨h3,d+1,by omega,fun j k' hk'=>?_,rfl,fun hmd=>?_⟩
 ·by_cases hj:j=d
  ·subst hj;rw [hk] at hk';injection hk' with hk';subst hk'
   simp
  ·have hne:k'≠k:=fun e=>by
    subst e;exact hj ((List.getElem?_inj (List.getElem?_eq_some_iff.1 hk').1 hn).1 (hk'.trans hk.symm))
   have e1:(k'==k)=false:=by rw [beq_eq_false_iff_ne];exact hne
   simp only [e1,Bool.false_or]
   rw [h2 j k' hk']
   have:(j<d)=(j<d+1):=by rw [eq_iff_iff];omega
   simp only [this]
 ·by_cases hmi:d=m
  ·simp [hm hmi]
  ·simp [h4 (by omega)]
theorem FL.prev {p q:Nat} {f:Nat→Bool} (hq:ks[p]?=some q) (h:f q=true):∀p',p+1=p'+1→∀k',ks[p']?=some k'→f k'=true:=by
 intro p' hp k' hk;obtain rfl:p=p':=by omega
 rw [hq] at hk;injection hk with hk;subst hk;exact h
theorem FL.read (hr:r∉ks) {f:Nat→Bool} {W:World} (h:FL ks Ws r m f W) (h0:f r=false):(∃d,d≤ks.length∧d≤m∧W=Ws d)∧FL ks Ws r m (fun j=>j==r || f j) W:=by
 obtain ⟨d,h1,h2,h3,h4⟩:=h;have hdm:d≤m:=by
  rcases Nat.lt_or_ge m d with h | h
  ·rw [h4 h] at h0;cases h0
  ·exact h
 refine ⟨⟨d,h1,hdm,h3⟩,d,h1,fun i k hk=>?_,h3,fun _=>by simp⟩
 have hne:(k==r)=false:=by rw [beq_eq_false_iff_ne];exact fun e=>hr (e ▸ List.mem_of_getElem? hk)
 simp only [hne,Bool.false_or]
 exact h2 i k hk
theorem FL.agree {Ws':Nat→World} {k0:Nat} (hk:ks[0]?=some k0) (h0:Ws 0=Ws' 0) {f:Nat→Bool} {W:World} (hf:f k0=false) (h:FL ks Ws r m f W):FL ks Ws' r m f W:=by
 obtain ⟨d,h1,h2,h3,h4⟩:=h
 have:=h2 0 k0 hk;rw [hf] at this;have hd:d=0:=by
  rcases Nat.eq_zero_or_pos d with h | h
  ·exact h
  ·rw [decide_eq_true h] at this;cases this
 subst hd;exact ⟨0,h1,h2,h3.trans h0,h4⟩
theorem FL.all {p:World→Prop} (h:∀d,d≤ks.length→p (Ws d)) (x:FXN (FL ks Ws r m)):p x.W:=by
 obtain ⟨W,f,d,h1,_,h3,_⟩:=x;subst h3;exact h d h1
end
section
variable {P:Program} {ops:Array Oper} {rest:List Oper} {o:Oper} {a:Act} {Q:Act→Prop} {F:(Nat→Bool)→World→Prop} {js:List Nat} {k:Nat} {md:Region.Mode}
theorem wpN_call {dst:Option Tmp} {f:FuncId} {xs:Array Operand} {ats:Array TypeId} {ty:TypeId} {pos:String} {after:Array Edge} {g:Option (Nat×Bool)} (hD:Dep F js)
  (hi:ops[k]?=some ⟨dst,.call ⟨.value (.func f),xs,ats⟩,ty,pos,after,g⟩) (av:Array Value) (v:Value) (hw:Region.wanted ⟨dst,.call ⟨.value (.func f),xs,ats⟩,ty,pos,after,g⟩ (yielded ops a.tmps)=true) (hav:xs.map a.eval=av) (hcf:∀W,(callFunc f (#[]++av++#[])).run P W=.ok (.enter f av) W)
  (dep:List Nat) (hd:(dep.all fun j=>after.any fun e=>Region.binds md e && e.on==j)=true)
  (hc:∀f' W,F f' W→f' k=false→(∀j∈dep,f' j=true)→Calls P f av W (fun e W'=>e=.returned v∧F (fun i=>i==k || f' i) W')) (h:wpF P md ops (CN F) Q rest (k+1) (a.put dst v)):
  wpF P md ops (CN F) Q (⟨dst,.call ⟨.value (.func f),xs,ats⟩,ty,pos,after,g⟩ :: rest) k a:=by
 refine ⟨v,.inl ⟨hw,fun listed W hl hW=>?_⟩,h⟩
 have hk:listed.getD k false=false:=by
  have h1:=(mem_ready.1 hl).1;rcases Nat.lt_or_ge k listed.size with h' | h'
  ·simp [h'] at h1 ⊢;exact h1
  ·simp [Array.getElem?_eq_none h'] at h1
 rw [execOp_call_go,hav,hcf]
 show Calls P f av W _;refine (hc _ W hW hk (fun j hj=>ready_after hi (List.all_eq_true.1 hd j hj) hl)).mono fun e W' ⟨h1,h2⟩=>⟨h1,?_⟩
 refine hD _ _ _ (fun j hj=>?_) h2;by_cases hjk:j=k
 ·subst hjk;rw [(getD_on (mem_ready.1 hl).1).2];simp
 ·have hne:k≠j:=Ne.symm hjk;rw [getD_set_ne false hne];simp [hjk]
theorem wpN_storeD (hD:Dep F js) (hi:ops[k]?=some o) (ty:TypeId) (px py:Operand) (ho:o.op=.store ty px py) (hw:Region.wanted o (yielded ops a.tmps)=true) {p u:Value} (hx:a.eval px=p) (hy:a.eval py=u) (dep:List Nat) (hd:(dep.all fun j=>o.after.any fun e=>Region.binds md e && e.on==j)=true)
  (hs:∀f W,F f W→f k=false→(∀j∈dep,f j=true)→∃W',(Instr.storeAt ty p u).run P W=.ok () W'∧F (fun i=>i==k || f i) W') (h:wpF P md ops (CN F) Q rest (k+1) (a.put o.dst undef)):wpF P md ops (CN F) Q (o :: rest) k a:=by
 refine ⟨undef,.inl ⟨hw,fun listed W hl hW=>?_⟩,h⟩
 have hk:listed.getD k false=false:=by
  have h1:=(mem_ready.1 hl).1;rcases Nat.lt_or_ge k listed.size with h' | h'
  ·simp [h'] at h1 ⊢;exact h1
  ·simp [Array.getElem?_eq_none h'] at h1
 obtain ⟨W',h1,h2⟩:=hs _ W hW hk (fun j hj=>ready_after hi (List.all_eq_true.1 hd j hj) hl)
 unfold execOp;simp only [ho,hx,hy,Sem.run_bind,h1,Result.andThen_ok,Sem.run_pure,uponF,true_and]
 refine hD _ _ _ (fun j hj=>?_) h2;by_cases hjk:j=k
 ·subst hjk;rw [(getD_on (mem_ready.1 hl).1).2];simp
 ·have hne:k≠j:=Ne.symm hjk;rw [getD_set_ne false hne];simp [hjk]
end
end
end Go.Proofs.YteejianjjpdimaaGreat
namespace Go.Proofs.YteejianjjpdimaaGreat.L15
open L02 L14
def stand (l:List UInt64) (k:Nat):Hb:={ split (l.getD k 0) with at_:=k,next:=l.getD (k+1) 0 }
def StOk (l:List UInt64) (k:Nat):Prop:=HdOk (l.getD k 0)∧(k:Int)+(split (l.getD k 0)).size≤l.length
instance (l:List UInt64) (k:Nat):Decidable (StOk l k):=inferInstanceAs (Decidable (_∧_))
def szN (l:List UInt64) (k:Nat):Nat:=(split (l.getD k 0)).size.toNat
def fromF (l:List UInt64):Nat→Nat→Option (List Hb)
 | 0,k=>if k=l.length then some [] else none
 | f+1,k=>if k=l.length then some [] else if StOk l k then (fromF l f (k+szN l k)).map (stand l k :: ·) else none
def from_ (l:List UInt64) (k:Nat):Option (List Hb):=fromF l (l.length-k) k
def Adj:List Hb→Prop
 | a :: b :: L=>(a.kind=2∧b.kind=2)∨Adj (b :: L)
 | _=>False
instance adjDec:(L:List Hb)→Decidable (Adj L)
 | []=>inferInstanceAs (Decidable False)
 | [_]=>inferInstanceAs (Decidable False)
 | a :: b :: L=>by
  have:=adjDec (b :: L)
  exact inferInstanceAs (Decidable ((a.kind=2∧b.kind=2)∨Adj (b :: L)))
def parsed (l:List UInt64):Option (List Hb):=match from_ l 128 with | some L=>if Adj L then none else some L | none=>none
def fromErr (l:List UInt64) (a:Int):Int:=if SizeOk l.length then (if 128≤a∧a≤l.length∧a % 2=0 then (if (from_ l a.toNat).isSome then 0 else 50) else 2) else 8
def fromL (l:List UInt64) (a:Int):List Hb:=if fromErr l a=0 then (from_ l a.toNat).getD [] else []
def allErr (l:List UInt64):Int:=if SizeOk l.length then (if (parsed l).isSome then 0 else 50) else 8
def allL (l:List UInt64):List Hb:=(if allErr l=0 then (parsed l).getD [] else [])
def findB (L:List Hb) (a:Int):Option Hb:=L.find? fun b=>decide (b.at_=a)
def findErr (l:List UInt64) (a:Int):Int:=if allErr l=0 then (if (findB (allL l) a).isSome then 0 else 6) else allErr l
def find (l:List UInt64) (a:Int):Hb:=if findErr l a=0 then (findB (allL l) a).getD .none else .none
theorem szN_ge {l:List UInt64} {k:Nat} (h:StOk l k):2≤szN l k∧(szN l k:Int)=(split (l.getD k 0)).size∧szN l k % 2=0∧k+szN l k≤l.length∧szN l k≤1920:=by
 obtain ⟨h1,h2⟩:=h
 have:=(split_ok h1).bounds;unfold szN;omega
theorem fromF_more {l:List UInt64}:∀(f k:Nat),l.length-k≤f→k≤l.length→fromF l f k=fromF l (l.length-k) k
 | 0,k,h,hk=>by rw [show l.length-k=0 by omega]
 | f+1,k,h,hk=>by
  by_cases hl:k=l.length
  ·subst hl;rw [Nat.sub_self,fromF,fromF,if_pos rfl,if_pos rfl]
  ·obtain ⟨d,hd⟩:∃d,l.length-k=d+1:=⟨l.length-k-1,by omega⟩
   rw [hd,fromF,fromF,if_neg hl,if_neg hl]
   by_cases hs:StOk l k
   ·rw [if_pos hs,if_pos hs]
    have hz:=szN_ge hs;rw [fromF_more f _ (by omega) hz.2.2.2.1,fromF_more d _ (by omega) hz.2.2.2.1]
   ·rw [if_neg hs,if_neg hs]
termination_by f=>f
theorem from_end {l:List UInt64}:from_ l l.length=some []:=by rw [from_,Nat.sub_self,fromF,if_pos rfl]
theorem from_no {l:List UInt64} {k:Nat} (hk:k<l.length) (h:¬StOk l k):from_ l k=none:=by
 obtain ⟨d,hd⟩:∃d,l.length-k=d+1:=⟨l.length-k-1,by omega⟩
 rw [from_,hd,fromF,if_neg (by omega),if_neg h]
theorem from_step {l:List UInt64} {k:Nat} (hk:k<l.length) (h:StOk l k):from_ l k=(from_ l (k+szN l k)).map (stand l k :: ·):=by
 obtain ⟨d,hd⟩:∃d,l.length-k=d+1:=⟨l.length-k-1,by omega⟩
 have hz:=szN_ge h;rw [from_,hd,fromF,if_neg (by omega),if_pos h,fromF_more d _ (by omega) hz.2.2.2.1];rfl
theorem from_past {l:List UInt64} {k:Nat} (hk:l.length<k):from_ l k=none:=by
 rw [from_,show l.length-k=0 by omega,fromF,if_neg (by omega)]
inductive Chain (l:List UInt64):Nat→List Hb→Prop where
 | nil:Chain l l.length []
 | cons {k:Nat} {L:List Hb}:k<l.length→StOk l k→Chain l (k+szN l k) L→Chain l k (stand l k :: L)
theorem chain_of {l:List UInt64}:∀(n k:Nat) (L:List Hb),l.length-k≤n→from_ l k=some L→Chain l k L
 | n,k,L,hn,h=>by
  by_cases hl:k=l.length
  ·subst hl;rw [from_end] at h;injection h with h;subst h;exact .nil
  ·by_cases hk:k<l.length
   ·by_cases hs:StOk l k
    ·rw [from_step hk hs] at h;have hz:=szN_ge hs;cases h2:from_ l (k+szN l k) with
     | none=>rw [h2] at h;cases h
     | some L'=>
      rw [h2] at h;injection h with h;subst h
      match n,hn with
      | n+1,hn=>exact .cons hk hs (chain_of n _ _ (by omega) h2)
      | 0,hn=>omega
    ·rw [from_no hk hs] at h;cases h
   ·rw [from_past (by omega)] at h;cases h
termination_by n=>n
theorem from_chain {l:List UInt64} {k:Nat} {L:List Hb} (h:Chain l k L):from_ l k=some L:=by
 induction h with
 | nil=>exact from_end
 | cons hk hs _ ih=>rw [from_step hk hs,ih];rfl
theorem chain_iff {l:List UInt64} {k:Nat} {L:List Hb}:from_ l k=some L↔Chain l k L:=⟨chain_of _ _ _ (Nat.le_refl _),from_chain⟩
theorem chain_mem {l:List UInt64} {k:Nat} {L:List Hb} (h:Chain l k L):∀b∈L,∃a:Nat,k≤a∧a<l.length∧StOk l a∧b=stand l a∧(k % 2=0→a % 2=0):=by
 induction h with
 | nil=>intro b hb;cases hb
 | cons hk hs hc ih=>
  intro b hb;rcases List.mem_cons.1 hb with rfl | hb
  ·exact ⟨_,Nat.le_refl _,hk,hs,rfl,id⟩
  ·obtain ⟨a,h1,h2,h3,h4,h5⟩:=ih b hb
   have:=szN_ge hs;exact ⟨a,by omega,h2,h3,h4,fun h=>h5 (by omega)⟩
theorem stand_ok {l:List UInt64} {k:Nat} (h:StOk l k):BkOk (stand l k):=ok_bare.2 (split_ok h.1)
theorem stand_at (l:List UInt64) (k:Nat):(stand l k).at_=k:=rfl
theorem stand_size {l:List UInt64} {k:Nat} (h:StOk l k):(stand l k).size=szN l k:=(szN_ge h).2.1.symm
theorem chain_len {l:List UInt64} {k:Nat} {L:List Hb} (h:Chain l k L):2*L.length+k≤l.length:=by
 induction h with
 | nil=>simp
 | cons hk hs hc ih=>have:=szN_ge hs;simp only [List.length_cons];omega
theorem parsed_ok {l:List UInt64} {L:List Hb}:parsed l=some L↔from_ l 128=some L∧¬Adj L:=by
 unfold parsed
 generalize from_ l 128=x
 cases x with
 | none=>simp
 | some M=>
  by_cases ha:Adj M
  ·simp only [if_pos ha]
   refine ⟨fun e=>(by cases e),fun h=>?_⟩
   obtain ⟨e,hn⟩:=h
   have:=Option.some.inj e;subst this;exact absurd ha hn
  ·simp only [if_neg ha]
   refine ⟨fun e=>?_,fun h=>h.1⟩
   have:=Option.some.inj e;subst this;exact ⟨rfl,ha⟩
theorem allErr_ok {l:List UInt64} (h:allErr l=0):SizeOk l.length∧parsed l=some (allL l):=by
 have h':=h;unfold allErr at h;split at h
 ·split at h
  ·rename_i h1 h2;obtain ⟨L,hL⟩:=Option.isSome_iff_exists.1 h2;exact ⟨h1,by simp only [allL,h',hL,if_true,Option.getD_some]⟩
  ·omega
 ·omega
theorem adj_iff:∀{L:List Hb},Adj L↔∃(i:Nat) (a b:Hb),L[i]?=some a∧L[i+1]?=some b∧a.kind=2∧b.kind=2
 | []=>⟨False.elim,fun ⟨_,_,_,h,_⟩=>by simp at h⟩
 | [x]=>⟨False.elim,fun ⟨i,_,_,_,h,_⟩=>by simp at h⟩
 | x :: y :: L=>by
  rw [Adj,adj_iff (L:=y :: L)]
  constructor
  ·rintro (⟨h1,h2⟩ | ⟨i,a,b,h⟩)
   ·exact ⟨0,x,y,rfl,rfl,h1,h2⟩
   ·exact ⟨i+1,a,b,h⟩
  ·rintro ⟨i,a,b,h1,h2,h3,h4⟩
   rcases i with _ | i
   ·simp at h1 h2;subst h1;subst h2;exact .inl ⟨h3,h4⟩
   ·exact .inr ⟨i,a,b,h1,h2,h3,h4⟩
end Go.Proofs.YteejianjjpdimaaGreat.L15
namespace Go.Proofs.YteejianjjpdimaaGreat
section
open Go.RowKit L02 L14 L15
def bkL (b:Hb):List Value:=[.int .i64 b.at_,.int .i64 b.size,.int .i64 b.kind,.int .i64 b.ty,.bool b.mark,.int .u64 b.next.toNat]
def tabB (L:List Hb):List Value:=L.flatMap bkL
theorem tabB_len (L:List Hb):(tabB L).length=L.length*6:=by
 induction L with
 | nil=>rfl
 | cons s L ih=>rw [tabB,List.flatMap_cons,List.length_append,←tabB,ih];simp [bkL];omega
theorem tabB_get:∀(L:List Hb) (k:Nat) (s:Hb),L[k]?=some s→∀i,i<6→(tabB L)[k*6+i]?=(bkL s)[i]?
 | [],_,_,h,_,_=>by cases h
 | t :: L,0,s,h,i,hi=>by
  simp at h;subst h;rw [tabB,List.flatMap_cons,Nat.zero_mul,Nat.zero_add,List.getElem?_append_left (by simpa [bkL] using hi)]
 | t :: L,k+1,s,h,i,hi=>by
  rw [tabB,List.flatMap_cons,List.getElem?_append_right (by simp [bkL];omega)]
  rw [show (k+1)*6+i-(bkL t).length=k*6+i by simp [bkL];omega]
  exact tabB_get L k s (by simpa using h) i hi
theorem bkL_one (s:Hb):∀u∈bkL s,u.oneCell'=true:=by
 intro u hu;simp [bkL] at hu;rcases hu with rfl | rfl | rfl | rfl | rfl | rfl <;> rfl
theorem tabB_snoc (L:List Hb) (s:Hb):tabB L++bkL s=tabB (L++[s]):=by simp [tabB,List.flatMap_append]
theorem size_block:(Tryz.prog.info? 64).map (·.size)=some 6:=by kernel_rfl
theorem info_block:(Tryz.prog.info? 64).map (fun i=>(i.zero,i.size,i.bytes))=some (some (.agg #[.int .i64 0,.int .i64 0,.int .i64 0,.int .i64 0,.bool false,.int .u64 0]),6,48):=by kernel_rfl
def Blks (w:World) (v:Value) (L:List Hb):Prop:=Rd w 6 v L.length (tabB L)
def OwnK (w:World) (base:Nat) (v:Value) (L:List Hb):Prop:=w.ownsRow base 64 6 v L.length (tabB L)
theorem OwnK.rd {w:World} {base:Nat} {v:Value} {L:List Hb} (h:OwnK w base v L):Blks w v L:=Rd.of_own h
theorem Blks.below {w w':World} {v:Value} {L:List Hb} (h:Blks w v L) (hb:Below w.heap.size w w'):Blks w' v L:=Rd.below h hb
theorem OwnK.below {w w':World} {base:Nat} {v:Value} {L:List Hb} (h:OwnK w base v L) (hb:Below w.heap.size w w'):OwnK w' base v L:=own_below h hb
theorem OwnK.mono {w:World} {base base':Nat} {v:Value} {L:List Hb} (h:OwnK w base v L) (hb:base'≤base):OwnK w base' v L:=own_mono h hb
theorem OwnK.nil (w:World) (base:Nat):OwnK w base (.slice none 0 0) []:=World.ownsRow_nil w base _ 6
theorem Blks.nil (w:World):Blks w (.slice none 0 0) []:=(OwnK.nil w 0).rd
theorem OwnK.of {w:World} {B n:Nat} {v:Value} {xs:List Value} {L:List Hb} (h:w.ownsRow B 64 6 v n xs) (hx:xs=tabB L):OwnK w B v L:=by
 subst hx;have hn:n=L.length:=by have:=h.1;rw [tabB_len] at this;omega
 subst hn;exact h
theorem Blks.len {w:World} {v:Value} {L:List Hb} (h:Blks w v L):∀ty W,(Builtin.len_ #[59] ty #[v]).run Tryz.prog W=.ok (.int .i64 (L.length:Int)) W:=Rd.len h Tryz.underlying59
theorem Blks.len_le {w:World} {v:Value} {L:List Hb} (h:Blks w v L):L.length≤9223372036854775807:=Rd.len_le h
theorem Blks.form {w:World} {v:Value} {L:List Hb} (h:Blks w v L):∃A c,v=.slice A L.length c:=by
 obtain ⟨A,c,e,_⟩:=h;exact ⟨A,c,e⟩
theorem lit_block {w:World} {e:TypeId} {n:Nat} (s:Hb) (hn:w.heap.size=n):Rd (w.alloc (.cells #[.int .i64 s.at_,.int .i64 s.size,.int .i64 s.kind,.int .i64 s.ty,.bool s.mark,.int .u64 s.next.toNat] e)) 6 (.slice (some ⟨n,0,none⟩) 1 1) 1 (bkL s):=by
 subst hn;exact lit_rdK (n:=1) (sz:=6) rfl (by omega)
theorem Blks.at_ {w:World} {v:Value} {L:List Hb} (h:Blks w v L) {k:Nat} (hk:k<L.length):
  ∃b o s,(∀W,(Instr.indexAt 59 v (.int .i64 (k:Int))).run Tryz.prog W=.ok (.pointer (some ⟨b,o,none⟩)) W)∧w.cell? ⟨b,o,none⟩=some (.int .i64 s.at_)∧w.cell? ⟨b,o+1,none⟩=some (.int .i64 s.size)∧w.cell? ⟨b,o+2,none⟩=some (.int .i64 s.kind)∧w.cell? ⟨b,o+3,none⟩=some (.int .i64 s.ty)∧w.cell? ⟨b,o+4,none⟩=some (.bool s.mark)∧w.cell? ⟨b,o+5,none⟩=some (.int .u64 s.next.toNat)∧Hid (L[k]?=some s)∧b<w.heap.size:=by
 have hix:=fun W=>Rd.ixN (P:=Tryz.prog) h Tryz.underlying59 size_block hk W;obtain ⟨b,o,c,rfl,hb,hc,hcell⟩:=Rd.form h (by omega)
 have hs:L[k]?=some L[k]:=List.getElem?_eq_getElem hk;have t0:=tabB_get L k _ hs 0 (by omega)
 have t1:=tabB_get L k _ hs 1 (by omega)
 have t2:=tabB_get L k _ hs 2 (by omega)
 have t3:=tabB_get L k _ hs 3 (by omega)
 have t4:=tabB_get L k _ hs 4 (by omega)
 have t5:=tabB_get L k _ hs 5 (by omega)
 exact ⟨b,o+k*6,L[k],fun W=>hix W,hcell _ _ t0,hcell _ _ t1,hcell _ _ t2,hcell _ _ t3,hcell _ _ t4,hcell _ _ t5,hD hs,hb⟩
end
section
open Go.RowKit
theorem grown_set (w:World) (p:Addr) (u:Value):w.grownBy (w.setCell p u) (some p.block):=
 ⟨rfl,rfl,rfl,by simp [World.setCell],fun k hk hne=>Below.heap_setCell w p u k (fun e=>hne (by rw [e]))⟩
theorem own_not_bx {w:World} {B e sz n p:Nat} {v:Value} {xs:List Value} {t:TypeId} {cs:Array Value} (h:w.ownsRow B e sz v n xs) (hg:Bx w p t cs) (hne:e≠t):v.ownBlock=none∨v.ownBlock≠some p:=by
 rcases h.2 with ⟨rfl,_⟩ | ⟨g,cap,cur,rfl,_,hgg,_⟩
 ·exact .inl rfl
 ·refine .inr ?_;intro he;simp [Value.ownBlock] at he;subst he;rw [Bx,hgg] at hg;injection hg with hg
  injection hg with _ h2 _
  exact hne h2
theorem own_set {w:World} {B e sz n p i:Nat} {v u:Value} {xs:List Value} {t:TypeId} {cs:Array Value} (h:w.ownsRow B e sz v n xs) (hg:Bx w p t cs) (hne:e≠t):(w.setCell ⟨p,i,none⟩ u).ownsRow B e sz v n xs:=
 World.ownsRow.kept h (grown_set w ⟨p,i,none⟩ u) (own_not_bx h hg hne)
theorem Bx.grown {w w':World} {g:Nat} {t:TypeId} {cs:Array Value} {row:Option Nat} (h:Bx w g t cs) (hg:w.grownBy w' row) (hne:row=none∨row≠some g):Bx w' g t cs:=by
 have hl:=h.lt;unfold Bx at *;rw [hg.block g hl (by
  rcases hne with rfl | h
  ·simp
  ·exact fun e=>h e.symm)]
 exact h
theorem own_fresh {w:World} {B e sz n:Nat} {v:Value} {xs:List Value} (h:w.ownsRow B e sz v n xs):v.ownBlock=none∨v.ownBlock≠some w.heap.size:=by
 cases hv:v.ownBlock with
 | none=>exact .inl rfl
 | some g=>exact .inr (fun e=>by injection e with e;have:=(h.lt g hv).2;omega)
theorem own_apart {w:World} {B e sz n p i:Nat} {v u:Value} {xs:List Value} (h:w.ownsRow B e sz v n xs) (hp:p<B):(w.setCell ⟨p,i,none⟩ u).ownsRow B e sz v n xs:=by
 refine World.ownsRow.kept h (grown_set w ⟨p,i,none⟩ u) ?_;cases hv:v.ownBlock with
 | none=>exact .inl rfl
 | some g=>exact .inr (fun e=>by injection e with e;subst e;have:=(h.lt g hv).1;omega)
def Mid (lo hi:Nat) (w w':World):Prop:=∀k,lo≤k→k<hi→w'.heap[k]?=w.heap[k]?
theorem Mid.refl (lo hi:Nat) (w:World):Mid lo hi w w:=fun _ _ _=>rfl
theorem Mid.set {lo hi:Nat} {w w':World} (h:Mid lo hi w w') {p:Addr} (hp:p.block<lo∨hi≤p.block) (u:Value):Mid lo hi w (w'.setCell p u):=fun k h1 h2=>
 (Below.heap_setCell w' p u k (by omega)).trans (h k h1 h2)
theorem Mid.grown {lo hi:Nat} {w w' w'':World} {row:Option Nat} (h:Mid lo hi w w') (hs:hi≤w'.heap.size) (hg:w'.grownBy w'' row) (hr:∀k,row=some k→k<lo∨hi≤k):Mid lo hi w w'':=fun k h1 h2=>
 (hg.block k (by omega) (fun e=>by have:=hr k e.symm;omega)).trans (h k h1 h2)
theorem Mid.below {lo hi:Nat} {w w' w'':World} (h:Mid lo hi w w') (hs:hi≤w'.heap.size) (hb:Below w'.heap.size w' w''):Mid lo hi w w'':=fun k h1 h2=>
 (hb.block k (by omega)).trans (h k h1 h2)
theorem own_mid {lo e sz n:Nat} {w w':World} {v:Value} {xs:List Value} (h:w.ownsRow lo e sz v n xs) (hm:Mid lo w.heap.size w w'):w'.ownsRow lo e sz v n xs:=by
 refine ⟨h.1,h.2.imp id ?_⟩
 rintro ⟨g,cap,cur,h1,h2,h3,h4⟩
 exact ⟨g,cap,cur,h1,h2,(hm g h2 (Array.getElem?_eq_some_iff.1 h3).1).trans h3,h4⟩
end
end Go.Proofs.YteejianjjpdimaaGreat
