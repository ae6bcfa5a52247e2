/- Contracts of the functions that the laws 'T' reach, part 10. No condition. -/
import Derived.Test.YteejianjjpdimaaGreatMTi
set_option linter.unusedVariables false
set_option linter.unusedSimpArgs false
set_option maxRecDepth 100000
set_option maxHeartbeats 8000000
namespace Go.Proofs.YteejianjjpdimaaGreat.L19
open L02 L07 L13 L14 L15 L16 L18
inductive Seg (l:List UInt64):Nat→List Hb→Nat→Prop where
 | nil {k:Nat}:k≤l.length→Seg l k [] k
 | cons {k q:Nat} {L:List Hb}:k<l.length→StOk l k→Seg l (k+szN l k) L q→Seg l k (stand l k :: L) q
section
variable {l l':List UInt64} {k p q:Nat} {A B L:List Hb} {b:Hb}
theorem Seg.le (h:Seg l k L q):k≤q∧q≤l.length:=by
 induction h with
 | nil h=>exact ⟨Nat.le_refl _,h⟩
 | cons hk hs _ ih=>have:=szN_ge hs;omega
theorem Seg.of_chain (h:Chain l k L):Seg l k L l.length:=by
 induction h with
 | nil=>exact .nil (Nat.le_refl _)
 | cons hk hs _ ih=>exact .cons hk hs ih
theorem Seg.chain (h:Seg l k L q) (e:q=l.length):Chain l k L:=by
 induction h with
 | nil h=>subst e;exact .nil
 | cons hk hs _ ih=>exact .cons hk hs (ih e)
theorem Seg.append (h1:Seg l k A p) (h2:Seg l p B q):Seg l k (A++B) q:=by
 induction h1 with
 | nil h=>exact h2
 | cons hk hs _ ih=>exact .cons hk hs (ih h2)
theorem Seg.split:∀{A:List Hb} {k:Nat},Seg l k (A++B) q→∃p,Seg l k A p∧Seg l p B q
 | [],k,h=>⟨k,.nil (Nat.le_trans (Seg.le h).1 (Seg.le h).2),h⟩
 | a :: A,k,h=>by
  rw [List.cons_append] at h;cases h with
  | cons hk hs ht=>
   obtain ⟨p,h1,h2⟩:=Seg.split ht;exact ⟨p,.cons hk hs h1,h2⟩
theorem Seg.congr (h:Seg l k L q) (hl:l'.length=l.length) (he:∀i,k≤i→i<q→l'.getD i 0=l.getD i 0):Seg l' k L q:=by
 induction h with
 | nil h=>exact .nil (by omega)
 | cons hk hs ht ih=>
  rename_i k q L;have hz:=szN_ge hs;have hle:=ht.le;have e0:=he k (Nat.le_refl _) (by omega)
  have e1:=he (k+1) (by omega) (by omega)
  have es:stand l' k=stand l k:=by unfold stand;rw [e0,e1]
  have ez:szN l' k=szN l k:=by unfold szN;rw [e0]
  rw [←es]
  refine .cons (by omega) ?_ ?_
  ·unfold StOk;rw [e0,hl];exact hs
  ·rw [ez];exact ih (fun i h1 h2=>he i (by omega) h2)
theorem Seg.head (h:Seg l k (b :: L) q):b.at_=k∧BkOk b∧b=stand l k∧StOk l k∧((k+szN l k:Nat):Int)=k+b.size∧Seg l (k+szN l k) L q:=by
 cases h with
 | cons hk hs ht=>
  have hz:=szN_ge hs;refine ⟨rfl,stand_ok hs,rfl,hs,?_,ht⟩
  rw [stand_size hs];omega
theorem Seg.one (h:Seg l k [b] q):b.at_=k∧(q:Int)=k+b.size∧BkOk b:=by
 obtain ⟨h1,h2,_,_,h3,h4⟩:=h.head;cases h4 with
 | nil=>exact ⟨h1,h3,h2⟩
theorem Seg.even (h:Seg l k L q) (hk:k % 2=0):q % 2=0:=by
 induction h with
 | nil h=>exact hk
 | cons _ hs _ ih=>have:=szN_ge hs;exact ih (by omega)
theorem Seg.mem (h:Seg l k L q):∀b∈L,∃a:Nat,k≤a∧StOk l a∧b=stand l a∧a+szN l a≤q:=by
 induction h with
 | nil h=>intro b hb;cases hb
 | cons hk hs ht ih=>
  intro b hb;have hle:=ht.le;have hz:=szN_ge hs;rcases List.mem_cons.1 hb with rfl | hb
  ·exact ⟨_,Nat.le_refl _,hs,rfl,by omega⟩
  ·obtain ⟨a,h1,h2⟩:=ih b hb;exact ⟨a,by omega,h2⟩
theorem Seg.bound (h:Seg l k L q) {b:Hb} (hb:b∈L):(k:Int)≤b.at_∧b.at_+b.size≤q∧2≤b.size:=by
 obtain ⟨a,h1,h2,h3,h4⟩:=h.mem b hb;have hz:=szN_ge h2;have e1:b.size=szN l a:=by rw [h3];exact stand_size h2
 have e2:b.at_=a:=by rw [h3];rfl
 omega
theorem stand_put (hok:BkOk b) (hw:l.getD k 0=word b) (ha:b.at_=k) (hn:b.next=l.getD (k+1) 0) (hle:(k:Int)+b.size≤l.length):StOk l k∧stand l k=b∧(szN l k:Int)=b.size:=by
 have hsp:=split_word hok;have hb:=hok.bounds;refine ⟨⟨by rw [hw];exact hd_word hok,by rw [hw,hsp];exact hle⟩,?_,?_⟩
 ·unfold stand;rw [hw,hsp,←hn,←ha]
 ·unfold szN;rw [hw,hsp]
  show ((b.size.toNat:Nat):Int)=b.size;omega
theorem Seg.put (hok:BkOk b) (hw:l.getD k 0=word b) (ha:b.at_=k) (hn:b.next=l.getD (k+1) 0) (hq:(q:Int)=k+b.size) (hle:q≤l.length):Seg l k [b] q:=by
 obtain ⟨h1,h2,h3⟩:=stand_put hok hw ha hn (by omega)
 have hb:=hok.bounds;have e:q=k+szN l k:=by omega
 have:=Seg.cons (l:=l) (k:=k) (q:=q) (L:=[]) (by omega) h1 (by rw [←e];exact .nil hle)
 rw [h2] at this;exact this
theorem all_of_seg (hs:SizeOk l.length) (h:Seg l 128 L l.length) (ha:¬Adj L):allErr l=0∧allL l=L:=by
 have hp:parsed l=some L:=parsed_ok.2 ⟨from_chain (h.chain rfl),ha⟩
 have he:allErr l=0:=by unfold allErr;rw [if_pos hs,hp];rfl
 exact ⟨he,by rw [allL,if_pos he,hp];rfl⟩
theorem seg_of_all (h:allErr l=0):Seg l 128 (allL l) l.length∧¬Adj (allL l):=by
 obtain ⟨hs,hp⟩:=allErr_ok h;obtain ⟨hfr,hadj⟩:=parsed_ok.1 hp;exact ⟨.of_chain (chain_iff.1 hfr),hadj⟩
end
def LastF (L:List Hb):Prop:=∃P f,L=P++[f]∧f.kind=2
def HeadF (L:List Hb):Prop:=∃f S,L=f :: S∧f.kind=2
theorem adj_app:∀{A B:List Hb},Adj (A++B)↔Adj A∨Adj B∨(LastF A∧HeadF B)
 | [],B=>by
  simp only [List.nil_append,Adj,false_or]
  constructor
  ·intro h;exact .inl h
  ·rintro (h | ⟨⟨P,f,h,_⟩,_⟩)
   ·exact h
   ·simp at h
 | [a],[]=>by
  simp only [List.append_nil,Adj,false_or]
  constructor
  ·intro h;exact h.elim
  ·rintro ⟨_,f,S,h,_⟩;cases h
 | [a],b :: B=>by
  show (a.kind=2∧b.kind=2)∨Adj (b :: B)↔_;constructor
  ·rintro (⟨h1,h2⟩ | h)
   ·exact .inr (.inr ⟨⟨[],a,rfl,h1⟩,b,B,rfl,h2⟩)
   ·exact .inr (.inl h)
  ·rintro (h | h | ⟨⟨P,f,h1,h2⟩,g,S,h3,h4⟩)
   ·exact h.elim
   ·exact .inr h
   ·left;injection h3 with h3 _
    subst h3;rcases P with _ | ⟨x,P⟩
    ·simp at h1;subst h1;exact ⟨h2,h4⟩
    ·simp at h1
 | a :: a' :: A,B=>by
  show (a.kind=2∧a'.kind=2)∨Adj (a' :: A++B)↔((a.kind=2∧a'.kind=2)∨Adj (a' :: A))∨Adj B∨(LastF (a :: a' :: A)∧HeadF B)
  rw [adj_app (A:=a' :: A)]
  have e:LastF (a :: a' :: A)↔LastF (a' :: A):=by
   constructor
   ·rintro ⟨P,f,h1,h2⟩
    rcases P with _ | ⟨x,P⟩
    ·simp at h1
    ·injection h1 with _ h1
     exact ⟨P,f,h1,h2⟩
   ·rintro ⟨P,f,h1,h2⟩
    exact ⟨a :: P,f,by rw [h1];rfl,h2⟩
  rw [e]
  constructor
  ·rintro (h | h | h | h)
   ·exact .inl (.inl h)
   ·exact .inl (.inr h)
   ·exact .inr (.inl h)
   ·exact .inr (.inr h)
  ·rintro ((h | h) | h | h)
   ·exact .inl h
   ·exact .inr (.inl h)
   ·exact .inr (.inr (.inl h))
   ·exact .inr (.inr (.inr h))
theorem headF_cons {a:Hb} {L:List Hb}:HeadF (a :: L)↔a.kind=2:=by
 constructor
 ·rintro ⟨f,S,h,hk⟩;injection h with h _;subst h;exact hk
 ·intro h;exact ⟨a,L,rfl,h⟩
theorem lastF_snoc {a:Hb} {L:List Hb}:LastF (L++[a])↔a.kind=2:=by
 constructor
 ·rintro ⟨P,f,h,hk⟩
  have:=List.append_inj' h rfl
  have:=this.2;injection this with this _;subst this;exact hk
 ·intro h;exact ⟨L,a,rfl,h⟩
theorem objs_app (A B:List Hb):objs (A++B)=objs A++objs B:=List.filter_append ..
theorem free_app (A B:List Hb):free (A++B)=free A++free B:=List.filter_append ..
structure Cut (l:List UInt64) (P M S:List Hb) (p q:Nat):Prop where
 eq:allL l=P++(M++S)
 s1:Seg l 128 P p
 s2:Seg l p M q
 s3:Seg l q S l.length
 na:¬Adj (P++(M++S))
theorem Cut.of {l:List UInt64} (h:allErr l=0) {P M S:List Hb} (e:allL l=P++(M++S)):∃p q,Cut l P M S p q:=by
 obtain ⟨h1,h2⟩:=seg_of_all h;rw [e] at h1 h2;obtain ⟨p,a1,a2⟩:=Seg.split h1;obtain ⟨q,a3,a4⟩:=Seg.split a2;exact ⟨p,q,e,a1,a3,a4,h2⟩
theorem Cut.new {l l':List UInt64} {P M S N:List Hb} {p q:Nat} (hs:SizeOk l.length) (h:Cut l P M S p q) (hl:l'.length=l.length) (he:∀i,128≤i→i<p∨q≤i→l'.getD i 0=l.getD i 0) (hN:Seg l' p N q) (hna:¬Adj (P++(N++S))):
  allErr l'=0∧allL l'=P++(N++S)∧Cut l' P N S p q:=by
 have b1:=h.s1.le;have b2:=h.s2.le;have c1:Seg l' 128 P p:=h.s1.congr hl (fun i h1 h2=>he i h1 (.inl h2))
 have c3:Seg l' q S l'.length:=by rw [hl];exact h.s3.congr hl (fun i h1 h2=>he i (by omega) (.inr h1))
 have c:=c1.append (hN.append c3)
 obtain ⟨a1,a2⟩:=all_of_seg (by rw [hl];exact hs) c hna;exact ⟨a1,a2,a2,c1,hN,c3,hna⟩
theorem merge_part {l:List UInt64} (h:allErr l=0) {i:Nat} {b:Hb} (hb:(allL l)[i]?=some b) (hk:b.kind=1):
  ∃P lo hi S p q,Cut l P (lo++b :: hi) S p q∧(becomes (allL l) i).at_=p∧(becomes (allL l) i).size=q-p∧BkOk (becomes (allL l) i)∧(∀f∈lo,f.kind=2)∧(∀f∈hi,f.kind=2)∧lo.length≤1∧hi.length≤1∧
   (∀m:Hb,¬Adj (P++([m]++S)))∧i=P.length+lo.length∧128≤p∧(p:Int)≤b.at_∧b.at_+b.size≤q∧q≤l.length:=by
 obtain ⟨hs,_⟩:=allErr_ok h;obtain ⟨hseg,hna⟩:=seg_of_all h;obtain ⟨L,hL⟩:=exq (allL l)
 rw [←hL] at hb hseg hna ⊢;have hil:=(List.getElem?_eq_some_iff.1 hb).1
 -- the parts before and behind
 obtain ⟨A,C,hAC,hAi⟩:∃A C,L=A++(b :: C)∧A.length=i:=by
  refine ⟨L.take i,L.drop (i+1),?_,by rw [List.length_take];omega⟩
  have:=(List.getElem?_eq_some_iff.1 hb).2;rw [←this,←List.drop_eq_getElem_cons hil,List.take_append_drop]
 have hgb:L.getD i .none=b:=by rw [List.getD_eq_getElem?_getD,hb];rfl
 have low:∃P lo,A=P++lo∧lo.length≤1∧(∀f∈lo,f.kind=2)∧¬LastF P∧((lo=[]∧lowF L i=false)∨∃f,lo=[f]∧lowF L i=true∧L.getD (i-1) .none=f):=by
  rcases List.eq_nil_or_concat A with e | ⟨P,f,e⟩
  ·subst e;refine ⟨[],[],rfl,by simp,by simp,?_,.inl ⟨rfl,?_⟩⟩
   ·rintro ⟨P,f,h,_⟩;simp at h
   ·have:i=0:=by simpa using hAi.symm
    unfold lowF;rw [this];rfl
  ·rw [List.concat_eq_append] at e;have hP:P.length+1=i:=by rw [←hAi,e];simp
   have hg:L.getD (i-1) .none=f:=by
    rw [hAC,e,List.getD_eq_getElem?_getD,List.append_assoc,show i-1=P.length by omega,List.getElem?_append_right (Nat.le_refl _),Nat.sub_self];rfl
   have h0:decide (0<i)=true:=decide_eq_true (by omega)
   by_cases hf:f.kind=2
   ·refine ⟨P,[f],e,by simp,by simp [hf],?_,.inr ⟨f,rfl,?_,hg⟩⟩
    ·intro hP2;apply hna;rw [hAC,e,adj_app,adj_app]
     exact .inl (.inr (.inr ⟨hP2,f,[],rfl,hf⟩))
    ·unfold lowF;rw [hg,h0,decide_eq_true hf];rfl
   ·refine ⟨A,[],by simp,by simp,by simp,?_,.inl ⟨rfl,?_⟩⟩
    ·rw [e,lastF_snoc];exact hf
    ·unfold lowF;rw [hg,decide_eq_false hf];simp
 have high:∃hi S,C=hi++S∧hi.length≤1∧(∀f∈hi,f.kind=2)∧¬HeadF S∧((hi=[]∧highF L i=false)∨∃f,hi=[f]∧highF L i=true∧L.getD (i+1) .none=f):=by
  rcases C with _ | ⟨f,S⟩
  ·refine ⟨[],[],rfl,by simp,by simp,?_,.inl ⟨rfl,?_⟩⟩
   ·rintro ⟨f,S,h,_⟩;cases h
   ·have:L.getD (i+1) .none=.none:=by
     rw [List.getD_eq_getElem?_getD,List.getElem?_eq_none (by rw [hAC];simp;omega)];rfl
    unfold highF;rw [this];rfl
  ·have hg:L.getD (i+1) .none=f:=by
    rw [hAC,List.getD_eq_getElem?_getD,List.getElem?_append_right (by omega),show i+1-A.length=1 by omega];rfl
   by_cases hf:f.kind=2
   ·refine ⟨[f],S,rfl,by simp,by simp [hf],?_,.inr ⟨f,rfl,?_,hg⟩⟩
    ·intro hS;apply hna;rw [hAC,adj_app,show b :: f :: S=[b]++([f]++S) from rfl,adj_app (A:=[b]),adj_app (A:=[f])]
     exact .inr (.inl (.inr (.inl (.inr (.inr ⟨⟨[],f,rfl,hf⟩,hS⟩)))))
    ·unfold highF;rw [hg,decide_eq_true hf]
   ·refine ⟨[],f :: S,rfl,by simp,by simp,?_,.inl ⟨rfl,?_⟩⟩
    ·rw [headF_cons];exact hf
    ·unfold highF;rw [hg,decide_eq_false hf]
 obtain ⟨P,lo,e1,l1,k1,n1,d1⟩:=low;obtain ⟨hi,S,e2,l2,k2,n2,d2⟩:=high;have eL:L=P++((lo++b :: hi)++S):=by rw [hAC,e1,e2];simp
 obtain ⟨p,q,hc⟩:=Cut.of h (P:=P) (M:=lo++b :: hi) (S:=S) (by rw [←hL,eL])
 have b1:=hc.s1.le;have b2:=hc.s2.le;have hm:=hc.s2;have hbm:=hm.bound (b:=b) (by simp)
 have pev:=hc.s1.even (by decide)
 have qev:=hm.even pev;have hsz:(becomes L i).at_=p∧(becomes L i).size=q-p:=by
  obtain ⟨x,m1,m2⟩:=Seg.split hm;obtain ⟨h1,_,_,_,h3,h4⟩:=m2.head;unfold becomes;dsimp only;rw [hgb]
  rcases d1 with ⟨rfl,f1⟩ | ⟨f,rfl,f1,g1⟩ <;> rcases d2 with ⟨rfl,f2⟩ | ⟨f',rfl,f2,g2⟩
  ·rw [f1,f2]
   cases m1;cases h4;simp only [Bool.false_eq_true,if_false]
   omega
  ·rw [f1,f2,g2]
   cases m1;obtain ⟨y1,y2,_⟩:=h4.one;simp only [Bool.false_eq_true,if_false,if_true]
   omega
  ·rw [f1,f2,g1]
   obtain ⟨y1,y2,_⟩:=m1.one;cases h4;simp only [Bool.false_eq_true,if_false,if_true]
   omega
  ·rw [f1,f2,g1,g2]
   obtain ⟨y1,y2,_⟩:=m1.one;obtain ⟨z1,z2,_⟩:=h4.one;simp only [if_true]
   omega
 refine ⟨P,lo,hi,S,p,q,hc,hsz.1,hsz.2,?_,k1,k2,l1,l2,?_,by rw [←hAi,e1];simp,b1.1,hbm.1,hbm.2.1,b2.2⟩
 ·have hz:=hsz.2;have hs2:=hs.2.1;have ho:BkOk (becomes L i)↔BkOk ⟨0,(becomes L i).size,2,0,false,0⟩:=Iff.rfl;rw [ho,hz]
  refine ⟨⟨?_,?_⟩,.inr ⟨rfl,rfl,rfl,?_⟩⟩ <;> dsimp only <;> omega
 ·intro m;rw [adj_app]
  rintro (h1 | h1 | ⟨h1,_⟩)
  ·apply hna;rw [eL,adj_app];exact .inl h1
  ·rw [adj_app] at h1;rcases h1 with h1 | h1 | ⟨_,h1⟩
   ·exact h1
   ·apply hna;rw [eL,adj_app,adj_app];exact .inr (.inl (.inr (.inl h1)))
   ·exact n2 h1
  ·exact n1 h1
end Go.Proofs.YteejianjjpdimaaGreat.L19
namespace Go.Proofs.YteejianjjpdimaaGreat.L20
open L02 L13 L18
def dropM (m:Mo) (sl g:Int):Mo:=if asked m sl g=0 then ⟨m.types,m.objs,m.slots.set sl.toNat ⟨g,false,0⟩⟩ else .nil
def allE (m:Mo) (t:Int):Int:=if chk m=0 then (if 0≤t∧t<m.types.length then (if next m.slots=none then 23 else if m.objs.length=960 then 4 else 0) else 2) else chk m
def newO (m:Mo) (t:Int):Ob:=⟨t,List.replicate (m.types.getD t.toNat []).length 0⟩
def allM (m:Mo) (t:Int):Mo:=if allE m t=0 then ⟨m.types,m.objs++[newO m t],givS m m.objs.length ((next m.slots).getD 0)⟩ else .nil
def allS (m:Mo) (t:Int):Int:=if allE m t=0 then ((next m.slots).getD 0:Nat) else 0
def allG (m:Mo) (t:Int):Int:=if allE m t=0 then (m.slots.getD ((next m.slots).getD 0) .none).gen+1 else 0
def isRef (m:Mo) (o:Ob) (k:Nat) (n:Nat):Prop:=((ty m.types o).getD k 0).toNat=3∧(o.fs.getD k 0).toNat=n+1
instance (m:Mo) (o:Ob) (k n:Nat):Decidable (isRef m o k n):=inferInstanceAs (Decidable (_∧_))
def Busy (m:Mo) (sl:Int) (n:Nat):Prop:=(∃i,i<m.slots.length∧(i:Int)≠sl∧(m.slots.getD i .none).used=true∧(m.slots.getD i .none).at_=n)∨∃i,i<m.objs.length∧i≠n∧∃k,k<(ob m i).fs.length∧isRef m (ob m i) k n
instance (m:Mo) (sl:Int) (n:Nat):Decidable (Busy m sl n):=inferInstanceAs (Decidable ((∃i,i<m.slots.length∧(i:Int)≠sl∧(m.slots.getD i .none).used=true∧(m.slots.getD i .none).at_=n)∨∃i,i<m.objs.length∧i≠n∧∃k,k<(ob m i).fs.length∧isRef m (ob m i) k n))
def freeE (m:Mo) (sl g:Int):Int:=if asked m sl g=0 then (if Busy m sl (own m sl) then 45 else 0) else asked m sl g
def lowA (n:Nat) (a:Int):Int:=if (n:Int)<a then a-1 else a
def lowV (n:Nat) (k:UInt8) (v:UInt64):UInt64:=if k.toNat=3∧n+1<v.toNat then v-1 else v
def lowO (m:Mo) (n:Nat) (o:Ob):Ob:=⟨o.ty,(List.range o.fs.length).map fun i=>lowV n ((ty m.types o).getD i 0) (o.fs.getD i 0)⟩
def lowS (n:Nat) (s:Sl):Sl:=if s.used=true then ⟨s.gen,true,lowA n s.at_⟩ else s
def freeM (m:Mo) (sl g:Int):Mo:=if freeE m sl g=0 then ⟨m.types,(m.objs.map (lowO m (own m sl))).eraseIdx (own m sl),((m.slots.set sl.toNat ⟨g,false,0⟩).map (lowS (own m sl)))⟩ else .nil
end Go.Proofs.YteejianjjpdimaaGreat.L20
namespace Go.Proofs.YteejianjjpdimaaGreat.L20
open L02 L13 L18
def numV (ns:List Int) (k:UInt8) (v:UInt64):UInt64:=if k.toNat=3∧0<v.toNat then UInt64.ofNat (ns.getD (v.toNat-1) 0+1).toNat else v
def numO (m:Mo) (ns:List Int) (o:Ob):Ob:=⟨o.ty,(List.range o.fs.length).map fun i=>numV ns ((ty m.types o).getD i 0) (o.fs.getD i 0)⟩
def numN (m:Mo) (ns:List Int) (want k:Nat):List Ob:=((List.range k).filter fun n=>decide (ns.getD n (-2)=(want:Int))).map fun n=>numO m ns (ob m n)
def numJ (m:Mo) (ns:List Int) (j:Nat):List Ob:=(List.range j).flatMap fun want=>numN m ns want ns.length
def numS (ns:List Int) (s:Sl):Sl:=if s.used=true then ⟨s.gen,true,ns.getD s.at_.toNat 0⟩ else s
def numM (m:Mo) (ns:List Int):Mo:=⟨m.types,numJ m ns ns.length,m.slots.map (numS ns)⟩
def NumOk (m:Mo) (ns:List Int):Prop:=ns.length=m.objs.length∧∀x∈ns,-1≤x∧x≤1000
theorem numJ_succ (m:Mo) (ns:List Int) (j:Nat):numJ m ns (j+1)=numJ m ns j++numN m ns j ns.length:=by
 simp [numJ,List.range_succ,List.flatMap_append]
theorem numV_other {ns:List Int} {k:UInt8} {v:UInt64} (h:¬(k.toNat=3∧0<v.toNat)):numV ns k v=v:=if_neg h
end Go.Proofs.YteejianjjpdimaaGreat.L20
namespace Go.Proofs.YteejianjjpdimaaGreat.L20
open L02 L13 L18
def kidAt (m:Mo) (o:Ob) (i:Nat):Option Nat:=if ((ty m.types o).getD i 0).toNat=3∧0<(o.fs.getD i 0).toNat then some ((o.fs.getD i 0).toNat-1) else none
def kidsTo (m:Mo) (o:Ob) (p:Nat):List Nat:=(List.range p).filterMap (kidAt m o)
def kids (m:Mo) (n:Nat):List Nat:=kidsTo m (ob m n) (ob m n).fs.length
def rootOf (s:Sl):Option Nat:=if s.used=true then some s.at_.toNat else none
def roots (m:Mo):List Nat:=m.slots.filterMap rootOf
inductive Rs (m:Mo):List Nat→List Nat→List Nat→Prop
 | nil (ord:List Nat):Rs m ord [] ord
 | seen {ord l out:List Nat} {n:Nat}:n∈ord→Rs m ord l out→Rs m ord (n :: l) out
 | new {ord l out:List Nat} {n:Nat}:n∉ord→Rs m (ord++[n]) (kids m n++l) out→Rs m ord (n :: l) out
section
variable {m:Mo} {ord l out:List Nat}
theorem Rs.det (h:Rs m ord l out):∀{out'},Rs m ord l out'→out=out':=by
 induction h with
 | nil ord=>intro o h;cases h;rfl
 | seen h1 _ ih=>intro o h;cases h with
  | seen _ h=>exact ih h
  | new h2 _=>exact absurd h1 h2
 | new h1 _ ih=>intro o h;cases h with
  | seen h2 _=>exact absurd h2 h1
  | new _ h=>exact ih h
theorem Rs.app (h:Rs m ord l out):∀{a b},l=a++b→∃mid,Rs m ord a mid∧Rs m mid b out:=by
 induction h with
 | nil ord=>
  intro a b h;obtain ⟨rfl,rfl⟩:=List.append_eq_nil_iff.1 h.symm;exact ⟨_,.nil _,.nil _⟩
 | @seen ord l out n h1 h2 ih=>
  intro a b h;cases a with
  | nil=>rw [List.nil_append] at h;subst h;exact ⟨_,.nil _,.seen h1 h2⟩
  | cons x a=>
   rw [List.cons_append] at h;injection h with e1 e2;subst e1
   obtain ⟨mid,p1,p2⟩:=ih e2;exact ⟨mid,.seen h1 p1,p2⟩
 | @new ord l out n h1 h2 ih=>
  intro a b h;cases a with
  | nil=>rw [List.nil_append] at h;subst h;exact ⟨_,.nil _,.new h1 h2⟩
  | cons x a=>
   rw [List.cons_append] at h;injection h with e1 e2;subst e1
   obtain ⟨mid,p1,p2⟩:=ih (a:=kids m n++a) (b:=b) (by rw [e2,List.append_assoc])
   exact ⟨mid,.new h1 p1,p2⟩
theorem Rs.join {mid:List Nat} {a:List Nat} (h:Rs m ord a mid):∀{b out},Rs m mid b out→Rs m ord (a++b) out:=by
 induction h with
 | nil ord=>intro b out h;exact h
 | seen h1 _ ih=>intro b out h;exact .seen h1 (ih h)
 | new h1 _ ih=>
  intro b out h;have h2:=ih h;rw [List.append_assoc] at h2;exact .new h1 h2
theorem Rs.pre (h:Rs m ord l out):ord <+: out:=by
 induction h with
 | nil ord=>exact List.prefix_refl _
 | seen _ _ ih=>exact ih
 | new _ _ ih=>exact (List.prefix_append _ _).trans ih
theorem Rs.nodup (h:Rs m ord l out):ord.Nodup→out.Nodup:=by
 induction h with
 | nil ord=>exact id
 | seen _ _ ih=>exact ih
 | @new ord l out n h1 _ ih=>
  intro hn;refine ih (List.nodup_append.2 ⟨hn,by simp,?_⟩)
  intro x hx y hy e;rw [List.mem_singleton] at hy;exact h1 (by rw [←hy,←e];exact hx)
theorem Rs.all {p:Nat→Prop} (hk:∀n,p n→∀k∈kids m n,p k) (h:Rs m ord l out):(∀n∈ord,p n)→(∀n∈l,p n)→∀n∈out,p n:=by
 induction h with
 | nil ord=>intro h _;exact h
 | seen _ _ ih=>intro h1 h2;exact ih h1 fun n hn=>h2 n (List.mem_cons_of_mem _ hn)
 | @new ord l out n _ _ ih=>
  intro h1 h2;have hpn:=h2 n List.mem_cons_self;refine ih (fun x hx=>?_) fun x hx=>?_
  ·rcases List.mem_append.1 hx with h | h
   ·exact h1 x h
   ·rw [List.mem_singleton.1 h];exact hpn
  ·rcases List.mem_append.1 hx with h | h
   ·exact hk n hpn x h
   ·exact h2 x (List.mem_cons_of_mem _ h)
theorem Rs.mem (h:Rs m ord l out):∀n∈l,n∈out:=by
 induction h with
 | nil ord=>intro n h;cases h
 | seen h1 h2 ih=>
  intro x hx;rcases List.mem_cons.1 hx with h | h
  ·rw [h];exact h2.pre.subset h1
  ·exact ih x h
 | new h1 h2 ih=>
  intro x hx;rcases List.mem_cons.1 hx with h | h
  ·rw [h];exact h2.pre.subset (List.mem_append_right _ (by simp))
  ·exact ih x (List.mem_append_right _ h)
theorem Rs.closed (h:Rs m ord l out):(∀n∈ord,∀k∈kids m n,k∈ord∨k∈l)→∀n∈out,∀k∈kids m n,k∈out:=by
 induction h with
 | nil ord=>
  intro h n hn k hk;rcases h n hn k hk with h | h
  ·exact h
  ·cases h
 | seen h1 h2 ih=>
  intro h;refine ih fun x hx k hk=>?_;rcases h x hx k hk with h | h
  ·exact .inl h
  ·rcases List.mem_cons.1 h with h | h
   ·rw [h];exact .inl h1
   ·exact .inr h
 | new h1 h2 ih=>
  intro h;refine ih fun x hx k hk=>?_;rcases List.mem_append.1 hx with hx | hx
  ·rcases h x hx k hk with h | h
   ·exact .inl (List.mem_append_left _ h)
   ·rcases List.mem_cons.1 h with h | h
    ·rw [h];exact .inl (List.mem_append_right _ (by simp))
    ·exact .inr (List.mem_append_right _ h)
  ·rw [List.mem_singleton.1 hx] at hk;exact .inr (List.mem_append_left _ hk)
theorem nodup_lt {N:Nat} {l:List Nat} (h:l.Nodup) (hl:∀n∈l,n<N):l.length≤N:=by
 have:=List.Nodup.length_le_of_subset (l₁:=l) (l₂:=List.range N) h (fun x hx=>List.mem_range.2 (hl x hx))
 simpa using this
theorem Rs.ex {N:Nat} (hk:∀n,n<N→∀k∈kids m n,k<N):∀(d:Nat) (ord l:List Nat),N-ord.length=d→ord.Nodup→(∀n∈ord,n<N)→(∀n∈l,n<N)→∃out,Rs m ord l out:=by
 intro d;induction d using Nat.strongRecOn with
 | ind d ih=>
  intro ord l hd hn ho;induction l with
  | nil=>intro _;exact ⟨_,.nil _⟩
  | cons n l ihl=>
   intro hl;have hl':∀x∈l,x<N:=fun x hx=>hl x (List.mem_cons_of_mem _ hx)
   have hnN:=hl n List.mem_cons_self;by_cases hm:n∈ord
   ·obtain ⟨out,h⟩:=ihl hl';exact ⟨out,.seen hm h⟩
   ·have hn2:(ord++[n]).Nodup:=List.nodup_append.2 ⟨hn,by simp,fun x hx y hy e=>hm (by rw [←List.mem_singleton.1 hy,←e];exact hx)⟩
    have ho2:∀x∈ord++[n],x<N:=fun x hx=>by
     rcases List.mem_append.1 hx with h | h
     ·exact ho x h
     ·rw [List.mem_singleton.1 h];exact hnN
    have h1:=nodup_lt hn2 ho2;simp at h1;obtain ⟨out,h⟩:=ih (N-(ord++[n]).length) (by simp;omega) (ord++[n]) (kids m n++l) rfl hn2 ho2 (fun x hx=>by
     rcases List.mem_append.1 hx with h | h
     ·exact hk n hnN x h
     ·exact hl' x h)
    exact ⟨out,.new hm h⟩
end
inductive Rn (m:Mo):Nat→List Nat→List Nat→List Nat→Prop
 | nil (ord:List Nat):Rn m 0 ord [] ord
 | seen {ord l out:List Nat} {n d:Nat}:n∈ord→Rn m d ord l out→Rn m (d+1) ord (n :: l) out
 | new {ord l out:List Nat} {n d:Nat}:n∉ord→Rn m d (ord++[n]) (kids m n++l) out→Rn m (d+1) ord (n :: l) out
theorem Rs.steps {m:Mo} {ord l out:List Nat} (h:Rs m ord l out):∃d,Rn m d ord l out:=by
 induction h with
 | nil ord=>exact ⟨0,.nil _⟩
 | seen h1 _ ih=>obtain ⟨d,h⟩:=ih;exact ⟨d+1,.seen h1 h⟩
 | new h1 _ ih=>obtain ⟨d,h⟩:=ih;exact ⟨d+1,.new h1 h⟩
theorem Rn.rs {m:Mo} {ord l out:List Nat} {d:Nat} (h:Rn m d ord l out):Rs m ord l out:=by
 induction h with
 | nil ord=>exact .nil _
 | seen h1 _ ih=>exact .seen h1 ih
 | new h1 _ ih=>exact .new h1 ih
theorem Rn.len {m:Mo} {ord l out:List Nat} {d:Nat} (h:Rn m d ord l out):l.length≤d:=by
 induction h with
 | nil ord=>simp
 | seen h1 _ ih=>simp;exact ih
 | new h1 _ ih=>simp at ih ⊢;omega
theorem Rn.all {m:Mo} {p:Nat→Prop} (hk:∀n,p n→∀k∈kids m n,p k) {ord l out:List Nat} {d:Nat} (h:Rn m d ord l out) (h1:∀n∈ord,p n) (h2:∀n∈l,p n):∀n∈out,p n:=h.rs.all hk h1 h2
theorem Rn.end {m:Mo} {ord out:List Nat} {d:Nat} (h:Rn m d ord [] out):out=ord:=by cases h;rfl
def kidsFrom (m:Mo) (o:Ob) (p:Nat):List Nat:=((List.range o.fs.length).drop p).filterMap (kidAt m o)
theorem kidsFrom_step {m:Mo} {o:Ob} {p:Nat} (hp:p<o.fs.length):kidsFrom m o p=(match kidAt m o p with | none=>[] | some c=>[c])++kidsFrom m o (p+1):=by
 have hd:(List.range o.fs.length).drop p=p :: (List.range o.fs.length).drop (p+1):=by
  rw [List.drop_eq_getElem_cons (by simpa using hp)];simp
 rw [kidsFrom,hd,List.filterMap_cons]
 cases kidAt m o p <;> rfl
theorem kidsTo_step {m:Mo} {o:Ob} {p:Nat}:kidsTo m o (p+1)=kidsTo m o p++(match kidAt m o p with | none=>[] | some c=>[c]):=by
 rw [kidsTo,List.range_succ,List.filterMap_append]
 congr 1;cases h:kidAt m o p <;> simp [h]
theorem kids_split {m:Mo} {o:Ob} {p:Nat} (hp:p≤o.fs.length):kidsTo m o o.fs.length=kidsTo m o p++kidsFrom m o p:=by
 rw [kidsTo,kidsTo,kidsFrom,←List.filterMap_append]
 congr 1
 have:=List.take_append_drop p (List.range o.fs.length)
 rw [←this]
 congr 1
 ·apply List.ext_getElem?;intro i;rw [List.getElem?_take]
  rcases Nat.lt_or_ge i p with h | h
  ·rw [if_pos h,List.getElem?_range (by omega),List.getElem?_range h]
  ·rw [if_neg (by omega),List.getElem?_eq_none (by simpa using h)]
 ·simp [List.drop_append,Nat.min_eq_left hp]
def canN (m:Mo) (out:List Nat):List Int:=(List.range m.objs.length).map fun n=>if n∈out then (out.idxOf n:Int) else -1
def canM (m:Mo) (out:List Nat):Mo:=numM m (canN m out)
end Go.Proofs.YteejianjjpdimaaGreat.L20
namespace Go.Proofs.YteejianjjpdimaaGreat.L20
open L02 L13 L18
def Like (m m':Mo):Prop:=m'.types=m.types∧m'.objs.length=m.objs.length∧∀k,(ob m' k).ty=(ob m k).ty∧(ob m' k).fs.length=(ob m k).fs.length
theorem Like.refl (m:Mo):Like m m:=⟨rfl,rfl,fun _=>⟨rfl,rfl⟩⟩
def mapO (φ:UInt8→UInt64→UInt64) (T:List (List UInt8)) (o:Ob) (i:Nat):Ob:=⟨o.ty,(List.range o.fs.length).map fun j=>if j<i then φ ((ty T o).getD j 0) (o.fs.getD j 0) else o.fs.getD j 0⟩
def mapP (φ:UInt8→UInt64→UInt64) (m:Mo) (n i:Nat):Mo:=⟨m.types,(List.range m.objs.length).map fun k=>if k<n then mapO φ m.types (ob m k) (ob m k).fs.length else if k=n then mapO φ m.types (ob m k) i else ob m k,m.slots⟩
section
variable {φ:UInt8→UInt64→UInt64} {m:Mo} {n i:Nat}
theorem mapO_zero (T:List (List UInt8)) (o:Ob):mapO φ T o 0=o:=by
 obtain ⟨t,fs⟩:=o
 have:(List.range fs.length).map (fun j=>fs.getD j 0)=fs:=by
  apply List.ext_getElem?;intro k;rcases Nat.lt_or_ge k fs.length with h | h
  ·simp [h,List.getD_eq_getElem?_getD]
  ·rw [List.getElem?_eq_none (by simpa using h),List.getElem?_eq_none h]
 simp only [List.getD_eq_getElem?_getD] at this;simp [mapO,this]
theorem mapO_len (T:List (List UInt8)) (o:Ob) (i:Nat):(mapO φ T o i).fs.length=o.fs.length:=by simp [mapO]
theorem ob_mapP (k:Nat) (hk:k<m.objs.length):ob (mapP φ m n i) k=if k<n then mapO φ m.types (ob m k) (ob m k).fs.length else if k=n then mapO φ m.types (ob m k) i else ob m k:=by
 rw [ob,List.getD_eq_getElem?_getD]
 simp [mapP,hk]
theorem mapP_zero:mapP φ m 0 0=m:=by
 obtain ⟨T,L,S⟩:=m;simp only [mapP]
 congr 1;apply List.ext_getElem?;intro k;rcases Nat.lt_or_ge k L.length with h | h
 ·simp [h,mapO_zero,ob,List.getD_eq_getElem?_getD]
 ·rw [List.getElem?_eq_none (by simpa using h),List.getElem?_eq_none h]
theorem mapP_next:mapP φ m n (ob m n).fs.length=mapP φ m (n+1) 0:=by
 simp only [mapP]
 congr 1;refine List.map_congr_left fun k _=>?_;by_cases h1:k<n
 ·rw [if_pos h1,if_pos (by omega)]
 ·by_cases h2:k=n
  ·subst h2;rw [if_neg h1,if_pos rfl,if_pos (by omega)]
  ·rw [if_neg h1,if_neg h2,if_neg (by omega)]
   by_cases h3:k=n+1
   ·rw [if_pos h3,mapO_zero]
   ·rw [if_neg h3]
theorem mapP_like:Like m (mapP φ m n i):=by
 refine ⟨rfl,by simp [mapP],fun k=>?_⟩
 rcases Nat.lt_or_ge k m.objs.length with h | h
 ·rw [ob_mapP k h]
  split
  ·exact ⟨rfl,mapO_len _ _ _⟩
  ·split
   ·exact ⟨rfl,mapO_len _ _ _⟩
   ·exact ⟨rfl,rfl⟩
 ·rw [ob,ob,List.getD_eq_getElem?_getD,List.getD_eq_getElem?_getD,List.getElem?_eq_none (by simpa [mapP] using h),List.getElem?_eq_none h]
  exact ⟨rfl,rfl⟩
theorem mapO_get (T:List (List UInt8)) (o:Ob) {i j:Nat} (hj:j<o.fs.length):(mapO φ T o i).fs[j]?=some (if j<i then φ ((ty T o).getD j 0) (o.fs.getD j 0) else o.fs.getD j 0):=by
 simp [mapO,hj]
theorem mapO_set (T:List (List UInt8)) (o:Ob) {i:Nat} (hi:i<o.fs.length):(mapO φ T o i).fs.set i (φ ((ty T o).getD i 0) (o.fs.getD i 0))=(mapO φ T o (i+1)).fs:=by
 apply List.ext_getElem?;intro j;rcases Nat.lt_or_ge j o.fs.length with h | h
 ·by_cases hij:i=j
  ·subst hij;rw [List.getElem?_set_self (by rw [mapO_len];exact hi),mapO_get T o hi,if_pos (by omega)]
  ·rw [List.getElem?_set_ne hij,mapO_get T o h,mapO_get T o h]
   by_cases h1:j<i
   ·rw [if_pos h1,if_pos (by omega)]
   ·rw [if_neg h1,if_neg (by omega)]
 ·rw [List.getElem?_eq_none (by rw [List.length_set,mapO_len];exact h),List.getElem?_eq_none (by rw [mapO_len];exact h)]
theorem mapP_step (hn:n<m.objs.length) (hi:i<(ob m n).fs.length):putF (mapP φ m n i) n i (φ ((ty m.types (ob m n)).getD i 0) ((ob m n).fs.getD i 0))=mapP φ m n (i+1):=by
 have hob:ob (mapP φ m n i) n=mapO φ m.types (ob m n) i:=by rw [ob_mapP n hn,if_neg (by omega),if_pos rfl]
 rw [putF,hob]
 show (⟨m.types,(mapP φ m n i).objs.set n ⟨(ob m n).ty,_⟩,m.slots⟩:Mo)=⟨m.types,(mapP φ m n (i+1)).objs,m.slots⟩
 congr 1;rw [mapO_set m.types _ hi]
 apply List.ext_getElem?;intro k;rcases Nat.lt_or_ge k m.objs.length with h | h
 ·by_cases hk:n=k
  ·subst hk;rw [List.getElem?_set_self (by simpa [mapP] using h)]
   simp [mapP,h,mapO]
  ·rw [List.getElem?_set_ne hk]
   simp only [mapP,List.getElem?_map,List.getElem?_range h,Option.map_some]
   by_cases h1:k<n
   ·rw [if_pos h1,if_pos h1]
   ·rw [if_neg h1,if_neg h1,if_neg (Ne.symm hk),if_neg (Ne.symm hk)]
 ·rw [List.getElem?_eq_none (by simpa [mapP] using h),List.getElem?_eq_none (by simpa [mapP] using h)]
theorem mapP_skip (h:φ ((ty m.types (ob m n)).getD i 0) ((ob m n).fs.getD i 0)=(ob m n).fs.getD i 0):mapP φ m n (i+1)=mapP φ m n i:=by
 simp only [mapP]
 congr 1;refine List.map_congr_left fun k _=>?_;by_cases h1:k<n
 ·rw [if_pos h1,if_pos h1]
 ·by_cases h2:k=n
  ·subst h2;rw [if_neg h1,if_pos rfl,if_neg h1,if_pos rfl]
   simp only [mapO]
   congr 1;refine List.map_congr_left fun j _=>?_;by_cases h3:j<k;all_goals
    by_cases h4:j=i
    ·subst h4;simp only [List.getD_eq_getElem?_getD] at h;simp [h]
    ·have:(j<i+1)=(j<i):=by rw [eq_iff_iff];omega
     simp only [this]
  ·rw [if_neg h1,if_neg h2,if_neg h1,if_neg h2]
theorem mapP_fld (hn:n<m.objs.length) (hi:i<(ob m n).fs.length):∃o,(mapP φ m n i).objs[n]?=some o∧o.fs[i]?=some ((ob m n).fs.getD i 0):=by
 refine ⟨mapO φ m.types (ob m n) i,?_,?_⟩
 ·simp [mapP,hn]
 ·rw [mapO_get _ _ hi,if_neg (by omega)]
theorem mapP_done:mapP φ m m.objs.length 0=⟨m.types,m.objs.map fun o=>mapO φ m.types o o.fs.length,m.slots⟩:=by
 simp only [mapP]
 congr 1;apply List.ext_getElem?;intro k;rcases Nat.lt_or_ge k m.objs.length with h | h
 ·simp [h,ob,List.getD_eq_getElem?_getD]
 ·rw [List.getElem?_eq_none (by simpa using h),List.getElem?_eq_none (by simpa using h)]
end
end Go.Proofs.YteejianjjpdimaaGreat.L20
namespace Go.Proofs.YteejianjjpdimaaGreat.L20
open L02 L13 L18
def mapT {α:Type} (f:α→α) (L:List α) (j:Nat):List α:=(L.take j).map f++L.drop j
section
variable {α:Type} {f:α→α} {L:List α} {k:Nat} {s:α}
theorem mapT_zero:mapT f L 0=L:=by simp [mapT]
theorem mapT_done (h:L.length≤k):mapT f L k=L.map f:=by simp [mapT,List.take_of_length_le h,List.drop_of_length_le h]
theorem mapT_len:(mapT f L k).length=L.length:=by simp [mapT];omega
theorem mapT_get (hs:L[k]?=some s):(mapT f L k)[k]?=some s:=by
 have hk:k<L.length:=(List.getElem?_eq_some_iff.1 hs).1;rw [mapT,List.getElem?_append_right (by simp;omega)]
 simp [Nat.min_eq_left (Nat.le_of_lt hk),hs]
theorem mapT_set (hs:L[k]?=some s):(mapT f L k).set k (f s)=mapT f L (k+1):=by
 have hk:k<L.length:=(List.getElem?_eq_some_iff.1 hs).1;have hd:L.drop k=s :: L.drop (k+1):=by
  rw [List.drop_eq_getElem_cons hk];congr 1;rw [List.getElem?_eq_getElem hk] at hs;injection hs
 rw [mapT,mapT,List.take_add_one,hs,hd]
 rw [List.set_append_right _ _ (by simp;omega)]
 simp [Nat.min_eq_left (Nat.le_of_lt hk)]
theorem mapT_same (hs:L[k]?=some s) (hf:f s=s):mapT f L (k+1)=mapT f L k:=by
 rw [←mapT_set hs,hf]
 apply List.ext_getElem?;intro i;by_cases hi:i=k
 ·subst hi;rw [List.getElem?_set_self (by rw [mapT_len];exact (List.getElem?_eq_some_iff.1 hs).1),mapT_get hs]
 ·rw [List.getElem?_set_ne (Ne.symm hi)]
end
def refTo (m:Mo) (q n i:Nat):Prop:=∃a b,(a<n∨a=n∧b<i)∧a<m.objs.length∧b<(ob m a).fs.length∧a≠q∧isRef m (ob m a) b q
def sloTo (S:List Sl) (q j:Nat):Prop:=∃a s,a<j∧S[a]?=some s∧s.used=true∧s.at_=(q:Int)
section
variable {m:Mo} {q n i:Nat}
theorem refTo_zero:¬refTo m q 0 0:=by rintro ⟨a,b,h,_⟩;omega
theorem refTo_next (hn:n<m.objs.length):refTo m q n (ob m n).fs.length↔refTo m q (n+1) 0:=by
 constructor
 ·rintro ⟨a,b,h,h1,h2,h3⟩;exact ⟨a,b,by omega,h1,h2,h3⟩
 ·rintro ⟨a,b,h,h1,h2,h3⟩
  refine ⟨a,b,?_,h1,h2,h3⟩
  by_cases ha:a=n
  ·subst ha;exact .inr ⟨rfl,h2⟩
  ·exact .inl (by omega)
theorem refTo_step (hn:n<m.objs.length) (hi:i<(ob m n).fs.length):refTo m q n (i+1)↔(refTo m q n i∨(n≠q∧isRef m (ob m n) i q)):=by
 constructor
 ·rintro ⟨a,b,h,h1,h2,h3,h4⟩
  by_cases hab:a=n∧b=i
  ·obtain ⟨rfl,rfl⟩:=hab;exact .inr ⟨h3,h4⟩
  ·exact .inl ⟨a,b,by omega,h1,h2,h3,h4⟩
 ·rintro (⟨a,b,h,h1,h2,h3,h4⟩ | ⟨h3,h4⟩)
  ·exact ⟨a,b,by omega,h1,h2,h3,h4⟩
  ·exact ⟨n,i,by omega,hn,hi,h3,h4⟩
theorem refTo_done:refTo m q m.objs.length 0↔∃i,i<m.objs.length∧i≠q∧∃k,k<(ob m i).fs.length∧isRef m (ob m i) k q:=by
 constructor
 ·rintro ⟨a,b,h,h1,h2,h3,h4⟩;exact ⟨a,h1,h3,b,h2,h4⟩
 ·rintro ⟨a,h1,h3,b,h2,h4⟩;exact ⟨a,b,.inl h1,h1,h2,h3,h4⟩
theorem sloTo_zero {S:List Sl}:¬sloTo S q 0:=by rintro ⟨a,s,h,_⟩;omega
theorem sloTo_step {S:List Sl} {j:Nat} {s:Sl} (hs:S[j]?=some s):sloTo S q (j+1)↔(sloTo S q j∨(s.used=true∧s.at_=(q:Int))):=by
 constructor
 ·rintro ⟨a,t,h,h1,h2⟩
  by_cases ha:a=j
  ·subst ha;rw [hs] at h1;injection h1 with h1;subst h1;exact .inr h2
  ·exact .inl ⟨a,t,by omega,h1,h2⟩
 ·rintro (⟨a,t,h,h1,h2⟩ | h2)
  ·exact ⟨a,t,by omega,h1,h2⟩
  ·exact ⟨j,s,by omega,hs,h2⟩
theorem busy_iff {k:Nat} {g:Int} (hk:k<m.slots.length) (n:Nat):Busy m (k:Int) n↔(sloTo (m.slots.set k ⟨g,false,0⟩) n m.slots.length∨refTo m n m.objs.length 0):=by
 rw [refTo_done]
 refine or_congr ?_ Iff.rfl;constructor
 ·rintro ⟨i,hi,hne,hu,ha⟩
  refine ⟨i,m.slots[i],hi,?_,?_⟩
  ·rw [List.getElem?_set_ne (by omega),List.getElem?_eq_getElem hi]
  ·simp only [List.getD_eq_getElem?_getD,List.getElem?_eq_getElem hi,Option.getD_some] at hu ha;exact ⟨hu,ha⟩
 ·rintro ⟨i,s,hi,hs,hu,ha⟩
  by_cases hik:k=i
  ·subst hik;rw [List.getElem?_set_self hk] at hs;injection hs with hs;subst hs;cases hu
  ·rw [List.getElem?_set_ne hik] at hs;refine ⟨i,hi,by omega,?_,?_⟩
   ·simp [List.getD_eq_getElem?_getD,hs,hu]
   ·simp [List.getD_eq_getElem?_getD,hs,ha]
end
theorem range_filter (a:Nat):∀N,(List.range N).filter (fun n=>decide (n=a))=if a<N then [a] else []
 | 0=>by simp
 | N+1=>by
  rw [List.range_succ,List.filter_append,range_filter a N]
  by_cases h:a<N
  ·rw [if_pos h,if_pos (by omega)]
   have:¬N=a:=by omega
   simp [this]
  ·rw [if_neg h]
   by_cases h2:a=N
   ·subst h2;simp
   ·rw [if_neg (by omega)]
    have:¬N=a:=fun e=>h2 e.symm;simp [this]
def sk (q w:Nat):Nat:=if w<q then w else w+1
theorem free_map {m:Mo} {q:Nat} {S:List Sl}:mapP (lowV q) ⟨m.types,m.objs,S⟩ m.objs.length 0=⟨m.types,m.objs.map (lowO m q),S⟩:=by
 have:=mapP_done (φ:=lowV q) (m:=⟨m.types,m.objs,S⟩)
 dsimp only at this;rw [this]
 congr 1;refine List.map_congr_left fun o _=>?_;rw [mapO,lowO]
 congr 1;refine List.map_congr_left fun j hj=>?_;rw [if_pos (List.mem_range.1 hj)]
end Go.Proofs.YteejianjjpdimaaGreat.L20
namespace Go.Proofs.YteejianjjpdimaaGreat.L19
open L02 L07 L13 L14 L15 L16 L18 L20
theorem objs_pair {l:List UInt64} (h:allErr l=0):(O19 l).Pairwise fun a b=>a.at_+a.size≤b.at_:=by
 unfold O19 objs;exact List.Pairwise.filter _ (chain_apart (chain_iff.1 (parsed_ok.1 (allErr_ok h).2).1)).2
theorem objs_idx {l:List UInt64} (h:allErr l=0) {i j:Nat} {b:Hb} (hi:(O19 l)[i]?=some b) (hj:(O19 l)[j]?=some b):i=j:=by
 have hp:=List.pairwise_iff_getElem.1 (objs_pair h)
 obtain ⟨a,_,_,h3,_,_,_,_,h8,_⟩:=objs_at h (List.mem_of_getElem? hi)
 obtain ⟨i1,i2⟩:=List.getElem?_eq_some_iff.1 hi;obtain ⟨j1,j2⟩:=List.getElem?_eq_some_iff.1 hj;rcases Nat.lt_trichotomy i j with hlt | e | hlt
 ·have:=hp i j i1 j1 hlt;rw [i2,j2] at this;omega
 ·exact e
 ·have:=hp j i j1 i1 hlt;rw [i2,j2] at this;omega
theorem idx_app:∀{A B:List Hb} {a:Int},idx (A++B) a=match idx A a with | some i=>some i | none=>(idx B a).map (·+A.length)
 | [],B,a=>by
  show idx B a=(idx B a).map (·+0)
  cases idx B a <;> rfl
 | b :: A,B,a=>by
  rw [List.cons_append,idx,idx]
  by_cases h:b.at_=a
  ·rw [if_pos h,if_pos h]
  ·rw [if_neg h,if_neg h,idx_app]
   cases idx A a with
   | some i=>rfl
   | none=>
    cases idx B a with
    | none=>rfl
    | some i=>show some (i+A.length+1)=some (i+(A.length+1));rfl
theorem idx_at {l:List UInt64} (h:allErr l=0) {i:Nat} {b:Hb} (hi:(O19 l)[i]?=some b):idx (O19 l) b.at_=some i:=by
 obtain ⟨j,c,h1,h2,h3,_⟩:=idx_of ⟨b,List.mem_of_getElem? hi,rfl⟩
 have hc:=objs_inj h (List.mem_of_getElem? h2) (List.mem_of_getElem? hi) h3;subst hc;rw [h1,objs_idx h h2 hi]
theorem idx_drop {A C:List Hb} {b:Hb} {a:Int} {i:Nat} (h:idx (A++b :: C) a=some i) (ha:b.at_≠a):idx (A++C) a=some (if i<A.length then i else i-1)∧i≠A.length:=by
 rw [idx_app] at h ⊢;cases hA:idx A a with
 | some j=>
  rw [hA] at h;injection h with h
  obtain ⟨c,hc,_⟩:=idx_some hA
  have:=(List.getElem?_eq_some_iff.1 hc).1;subst h;rw [if_pos this]
  exact ⟨rfl,by omega⟩
 | none=>
  rw [hA,idx,if_neg ha] at h;cases hC:idx C a with
  | none=>rw [hC] at h;cases h
  | some j=>
   rw [hC] at h;injection h with h
   dsimp only at h;subst h;refine ⟨?_,by omega⟩
   rw [if_neg (by omega)]
   show some (j+A.length)=_;congr 1;omega
theorem idx_ins {A C:List Hb} {o:Hb} {a:Int} {i:Nat} (h:idx (A++C) a=some i) (ha:o.at_≠a):idx (A++o :: C) a=some (if i<A.length then i else i+1):=by
 rw [idx_app] at h ⊢;cases hA:idx A a with
 | some j=>
  rw [hA] at h;injection h with h
  obtain ⟨c,hc,_⟩:=idx_some hA
  have:=(List.getElem?_eq_some_iff.1 hc).1;subst h;rw [if_pos this]
 | none=>
  rw [hA] at h;cases hC:idx C a with
  | none=>rw [hC] at h;cases h
  | some j=>
   rw [hC] at h;injection h with h
   dsimp only at h;subst h;rw [if_neg (by omega),idx,if_neg ha,hC]
   show some (j+1+A.length)=_;congr 1;omega
theorem refV_some {O:List Hb} {v:UInt64} {i:Nat} (h:idx O v.toNat=some i):refV O v=UInt64.ofNat (i+1):=by unfold refV;rw [h]
theorem refV_none {O:List Hb} {v:UInt64} (h:¬IsObj O v.toNat):refV O v=0:=by unfold refV;rw [idx_none.2 h]
theorem no_zero {l:List UInt64} (h:allErr l=0) {O:List Hb} (hO:∀b∈O,128≤b.at_):¬IsObj O (0:UInt64).toNat:=by
 rintro ⟨b,hb,e⟩
 have:=hO b hb;rw [e] at this;simp at this
theorem objs_low {l:List UInt64} (h:allErr l=0):∀b∈O19 l,128≤b.at_:=fun b hb=>by
 obtain ⟨a,h1,h2,_⟩:=objs_at h hb;omega
theorem fldV_not {O:List Hb} {k:UInt8} {v:UInt64} (h:k.toNat≠3):fldV O k v=v:=if_neg h
theorem fldV_ref {O:List Hb} {k:UInt8} {v:UInt64} (h:k.toNat=3):fldV O k v=refV O v:=if_pos h
theorem seen_put {l:List UInt64} (h:Rt l) {n i p:Nat} {b:Hb} {k:UInt8} {v:UInt64} (hb:(O19 l)[n]?=some b) (hi:i<(kindsB (T19 l) b).length) (hk:(kindsB (T19 l) b).getD i 0=k) (hp:p=b.at_.toNat+2+i) (hv:FdR (O19 l) k v):
  Rt (l.set p v)∧seen (l.set p v)=putF (seen l) n i (fldV (O19 l) k v):=by
 have hbm:=List.mem_of_getElem? hb;have f:=h.fs hbm v hi hp;refine ⟨f.rt h hbm hi hk hv,?_⟩
 have eO:O19 (l.set p v)=O19 l:=by unfold O19;rw [f.alL]
 have hn:n<(O19 l).length:=(List.getElem?_eq_some_iff.1 hb).1;unfold seen putF;rw [f.tyT,f.slL,eO]
 congr 1;refine List.ext_getElem? fun j=>?_;rw [List.getElem?_map]
 by_cases hj:j=n
 ·subst hj;rw [List.getElem?_set_self (by rw [List.length_map];exact hn),hb,Option.map_some]
  have hob:ob ⟨T19 l,(O19 l).map (obOf l (T19 l) (O19 l)),(slots l).map (slOf (O19 l))⟩ j=obOf l (T19 l) (O19 l) b:=by
   unfold ob;rw [List.getD_eq_getElem?_getD,List.getElem?_map,hb];rfl
  rw [hob]
  unfold obOf;congr 2;refine List.ext_getElem? fun q=>?_;by_cases hq:q<(kindsB (T19 l) b).length
  ·rw [obFs_get hq]
   by_cases e:q=i
   ·subst e;rw [List.getElem?_set_self (by rw [obFs_len];exact hq),f.fwb,hk]
   ·rw [List.getElem?_set_ne (fun e'=>e e'.symm),obFs_get hq,f.fwo b hbm q (by omega) (fun _=>hq) (.inr e)]
  ·rw [List.getElem?_eq_none (by rw [obFs_len];omega),List.getElem?_eq_none (by rw [List.length_set,obFs_len];omega)]
 ·rw [List.getElem?_set_ne (fun e=>hj e.symm),List.getElem?_map]
  cases hc:(O19 l)[j]? with
  | none=>rfl
  | some c=>
   have hcm:=List.mem_of_getElem? hc;have hne:c≠b:=fun e=>hj (objs_idx h.al hc (e ▸ hb))
   rw [Option.map_some,Option.map_some]
   unfold obOf obFs;congr 2;refine List.map_congr_left fun q hq=>?_;have hq:=List.mem_range.1 hq;rw [f.fwo c hcm q (by omega) (fun _=>hq) (.inl hne)]
structure Front (l l':List UInt64):Prop where
 len:l'.length=l.length
 take:l'.take 128=l.take 128
section
variable {l l':List UInt64}
theorem Front.get (h:Front l l') {i:Nat} (hi:i<128):l'.getD i 0=l.getD i 0:=by
 rw [List.getD_eq_getElem?_getD,List.getD_eq_getElem?_getD,←List.getElem?_take_of_lt hi,h.take,List.getElem?_take_of_lt hi]
theorem Front.part (h:Front l l') {a n:Nat} (ha:a+n≤128):(l'.drop a).take n=(l.drop a).take n:=by
 have e:∀m:List UInt64,(m.drop a).take n=((m.take 128).drop a).take n:=fun m=>by
  rw [List.drop_take,List.take_take,Nat.min_eq_left (by omega)]
 rw [e l',e l,h.take]
theorem Front.super (h:Front l l'):rErr l'=rErr l∧sT l'=sT l:=by
 have h0:c0 l'=c0 l:=by have:=h.part (a:=0) (n:=8) (by omega);rwa [List.drop_zero,List.drop_zero] at this
 have h1:c1 l'=c1 l:=h.part (a:=8) (n:=8) (by omega)
 have e0:is0 l'=is0 l:=by unfold is0;rw [h0,h.len]
 have e1:is1 l'=is1 l:=by unfold is1;rw [h1,h.len]
 have e2:rErr l'=rErr l:=by unfold rErr;rw [e0,e1,h.len]
 exact ⟨e2,by unfold sT one;rw [e2,e0,h0,h1]⟩
theorem Front.zr (h:Front l l') {a:Nat} (ha:a+8≤128):Zr l' a↔Zr l a:=by
 unfold Zr;constructor <;> intro hh i hi <;> have:=hh i hi <;> rw [h.get (by omega)] at*<;> exact this
theorem Front.tab (h:Front l l') (n:Int):tabErr l' n=tabErr l n∧tabT l' n=tabT l n:=by
 have e0:∀i,i<8→ta l' i=ta l i∧tb l' i=tb l i:=fun i hi=>by unfold ta tb;exact ⟨h.get (by omega),h.get (by omega)⟩
 have e:∀k,TysOk l' k↔TysOk l k:=fun k=>by
  unfold TysOk;constructor <;> intro hh i hi <;> have:=hh i hi <;> unfold TyOk at*<;> rw [(e0 i hi).1,(e0 i hi).2] at*<;> exact this
 have e2:tabErr l' n=tabErr l n:=by unfold tabErr;rw [h.len];simp only [e]
 refine ⟨e2,?_⟩
 unfold tabT;rw [e2]
 by_cases h0:tabErr l n=0
 ·rw [if_pos h0,if_pos h0]
  have hn:n.toNat≤8:=by
   unfold tabErr at h0;split at h0
   ·split at h0
    ·omega
    ·omega
   ·omega
  unfold tysTo;refine List.map_congr_left fun i hi=>?_
  have:=List.mem_range.1 hi;rw [(e0 i (by omega)).1,(e0 i (by omega)).2]
 ·rw [if_neg h0,if_neg h0]
theorem Front.open_ (h:Front l l'):openErr l'=openErr l∧slots l'=slots l:=by
 have e:ws l'=ws l:=h.part (a:=112) (n:=16) (by omega)
 refine ⟨?_,by unfold slots;rw [e]⟩
 have e2:AllR l'↔AllR l:=by unfold AllR;rw [e]
 unfold openErr;rw [h.len];simp only [e2]
theorem Front.types (h:Front l l'):T19 l'=T19 l:=by unfold T19;rw [h.super.2,(h.tab _).2]
theorem Front.rt (f:Front l l') (h:Rt l) (ha:allErr l'=0) (hg:∀b∈O19 l',Idle b∧Typed (T19 l) b∧Padded l' (T19 l) b∧FloatsB l' (T19 l) b∧RefsB l' (T19 l) (O19 l') b) (hs:SlotsGood (slots l) (O19 l')):Rt l':=by
 refine ⟨by rw [f.len];exact h.sz,f.super.1.trans h.tw,(f.zr (by omega)).2 h.z16,(f.zr (by omega)).2 h.z24,by rw [f.super.2,(f.tab _).1];exact h.ty,f.open_.1.trans h.sl,ha,?_,by rw [f.open_.2];exact hs⟩
 intro i h1 h2 b hb;rw [f.types]
 obtain ⟨g1,g2,g3,g4,g5⟩:=hg b hb;rcases (show i=7∨i=8∨i=9∨i=10∨i=11 by omega) with rfl | rfl | rfl | rfl | rfl
 ·exact g1
 ·exact g2
 ·exact g3
 ·exact g4
 ·exact g5
theorem front_set {p:Nat} {v:UInt64} (hp:128≤p):Front l (l.set p v):=⟨List.length_set,List.take_set_of_le hp⟩
theorem Front.refl (l:List UInt64):Front l l:=⟨rfl,rfl⟩
theorem Front.trans {m:List UInt64} (h:Front l l') (h2:Front l' m):Front l m:=⟨h2.len.trans h.len,h2.take.trans h.take⟩
end
theorem seen_slot_set {l:List UInt64} (h:Rt l) {k:Nat} {s:Sl} (hk:k<16) (hr:Right s) (hs:s.used=true→IsObj (O19 l) s.at_):
  Rt (l.set (112+k) (pk s))∧seen (l.set (112+k) (pk s))=⟨(seen l).types,(seen l).objs,(seen l).slots.set k (slOf (O19 l) s)⟩∧O19 (l.set (112+k) (pk s))=O19 l∧T19 (l.set (112+k) (pk s))=T19 l∧allL (l.set (112+k) (pk s))=allL l:=by
 obtain ⟨l',hl'⟩:∃l',l'=l.set (112+k) (pk s):=⟨_,rfl⟩
 have a1:=rErr_set (l:=l) (v:=pk s) (p:=112+k) (by omega)
 have a4:=tabErr_set (l:=l) (v:=pk s) (p:=112+k) (by omega)
 have a6:=allL_set (l:=l) (v:=pk s) (p:=112+k) (by omega)
 have a7:=allErr_set (l:=l) (v:=pk s) (p:=112+k) (by omega)
 have a8:=openErr_set (x:=pk s) h.sl hk (by rw [spl_pk hr];exact hr)
 have a9:=slots_set (l:=l) (pk s) hk;rw [spl_pk hr] at a9;have z1:=zr_set (l:=l) (v:=pk s) (p:=112+k) (a:=16) (by omega)
 have z2:=zr_set (l:=l) (v:=pk s) (p:=112+k) (a:=24) (by omega)
 have eT:T19 (l.set (112+k) (pk s))=T19 l:=by unfold T19;rw [a1.2.1,(a4 _).2]
 have eO:O19 (l.set (112+k) (pk s))=O19 l:=by unfold O19;rw [a6]
 have efw:∀b∈O19 l,∀i,fw (l.set (112+k) (pk s)) b i=fw l b i:=fun b hb i=>by
  have:=objs_low h.al b hb;exact fw_set (by omega)
 have hT:tabErr (l.set (112+k) (pk s)) (sT (l.set (112+k) (pk s)))=0:=by rw [a1.2.1,(a4 _).1];exact h.ty
 have hlen:(l.set (112+k) (pk s)).length=l.length:=List.length_set;rw [←hl'] at a1 a4 a6 a7 a8 a9 z1 z2 eT eO efw hT hlen;rw [←hl']
 refine ⟨⟨by rw [hlen];exact h.sz,a1.1.trans h.tw,z1.2 h.z16,z2.2 h.z24,hT,a8,a7.trans h.al,?_,?_⟩,?_,eO,eT,a6⟩
 ·intro i h1 h2 b hb;rw [eT,eO]
  rw [eO] at hb;exact (good_congr fun j _ _=>efw b hb j).2 (h.good i h1 h2 b hb)
 ·rw [a9,eO]
  intro t ht hu;rcases List.mem_or_eq_of_mem_set ht with ht | rfl
  ·exact h.slots t ht hu
  ·exact hs hu
 ·unfold seen;rw [eT,eO,a9,List.map_set]
  congr 1;refine List.map_congr_left fun b hb=>?_;unfold obOf obFs;congr 1;exact List.map_congr_left fun i _=>by rw [efw b hb i]
theorem seen_free {l:List UInt64} (h:Rt l) {n i:Nat} {b:Hb} (hb:(O19 l)[n]?=some b) (hi:(allL l)[i]?=some b) (hns:∀s∈slots l,s.used=true→s.at_≠b.at_)
  (hnr:∀c∈O19 l,c≠b→∀j,j<(kindsB (T19 l) c).length→((kindsB (T19 l) c).getD j 0).toNat=3→(fw l c j).toNat≠b.at_) {m:Hb} (hm:m=becomes (allL l) i):
  Rt (l.set m.at_.toNat (L14.word m))∧seen (l.set m.at_.toNat (L14.word m))=⟨(seen l).types,((seen l).objs.map (lowO (seen l) n)).eraseIdx n,(seen l).slots.map (lowS n)⟩∧
   (∃P M S,allL l=P++(M++S)∧b∈M∧(∀c∈M,c≠b→c.kind=2)∧allL (l.set m.at_.toNat (L14.word m))=P++([{ m with next:=(l.set m.at_.toNat (L14.word m)).getD (m.at_.toNat+1) 0 }]++S))∧128≤m.at_∧m.at_+m.size≤l.length:=by
 have hbm:=List.mem_of_getElem? hb;have hbk:b.kind=1:=(objs_mem.1 hbm).2;obtain ⟨P,lo,hi',S,p,q,hc,e1,e2,hok,k1,k2,l1,l2,hna,hil,hp128,hpb,hbq,hq⟩:=merge_part h.al hi hbk;rw [←hm] at e1 e2 hok;have hpn:m.at_.toNat=p:=by omega
 rw [hpn]
 have hbd:=hok.bounds;obtain ⟨l',hl'⟩:∃l',l'=l.set p (L14.word m):=⟨_,rfl⟩
 rw [←hl']
 have f:Front l l':=by rw [hl'];exact front_set hp128
 have hgp:l'.getD p 0=L14.word m:=by rw [hl'];exact getD_set_self (by omega)
 have hge:∀j,j≠p→l'.getD j 0=l.getD j 0:=fun j hj=>by rw [hl'];exact getD_set_ne (fun e=>hj e.symm)
 obtain ⟨a1,a2,a3⟩:=hc.new (N:=[{ m with next:=l'.getD (p+1) 0 }]) h.sz f.len (fun j h1 h2=>hge j (by omega))
  (Seg.put (b:={ m with next:=l'.getD (p+1) 0 }) (k:=p) hok (by rw [hgp];rfl) e1 rfl (by show (q:Int)=p+m.size;omega) (by rw [f.len];exact hq)) (hna _)
 -- the objects
 have eO:O19 l=objs P++b :: objs S:=by
  unfold O19;rw [hc.eq,objs_app,objs_app,objs_app]
  have z1:objs lo=[]:=List.filter_eq_nil_iff.2 fun x hx=>by have:=k1 x hx;simp;omega
  have z2:objs (b :: hi')=[b]:=by
   show List.filter _ _=_;rw [List.filter_cons_of_pos (by simpa using hbk)]
   congr 1;exact List.filter_eq_nil_iff.2 fun x hx=>by have:=k2 x hx;simp;omega
  rw [z1,z2];simp
 have hm2:m.kind=2:=by rw [hm];rfl
 have eO':O19 l'=objs P++objs S:=by
  unfold O19;rw [a2,objs_app,objs_app]
  have:objs [({ m with next:=l'.getD (p+1) 0 }:Hb)]=[]:=List.filter_eq_nil_iff.2 fun x hx=>by
   rw [List.mem_singleton] at hx;subst hx;simp;omega
  rw [this];simp
 have hn:n=(objs P).length:=objs_idx h.al hb (by rw [eO,List.getElem?_append_right (Nat.le_refl _),Nat.sub_self];rfl)
 have hsub:∀c∈O19 l',c∈O19 l∧c≠b:=fun c hcm=>by
  rw [eO'] at hcm;refine ⟨by rw [eO];rcases List.mem_append.1 hcm with h1 | h1 <;> simp [h1],fun e=>?_⟩
  subst e;rcases List.mem_append.1 hcm with h1 | h1
  ·obtain ⟨j,hj⟩:=List.getElem?_of_mem h1;have hjl:=(List.getElem?_eq_some_iff.1 hj).1
   have:=objs_idx h.al hb (j:=j) (by rw [eO,List.getElem?_append_left hjl];exact hj)
   omega
  ·obtain ⟨j,hj⟩:=List.getElem?_of_mem h1
   have:=objs_idx h.al hb (j:=(objs P).length+(j+1)) (by rw [eO,List.getElem?_append_right (by omega),show (objs P).length+(j+1)-(objs P).length=j+1 by omega];exact hj)
   omega
 have hfw:∀c∈O19 l',∀j,j≤(kindsB (T19 l) c).length→((kindsB (T19 l) c).length % 2=0→j<(kindsB (T19 l) c).length)→fw l' c j=fw l c j:=fun c hcm j h1 h2=>by
  refine hge _ ?_;have hcl:=hsub c hcm;obtain ⟨a,g1,g2,g3,g4,g5,g6,_⟩:=objs_at h.al hcl.1;have hsz:=(h.good 8 (by omega) (by omega) c hcl.1).2
  have:(kindsB (T19 l) c).length % 2=0∨(kindsB (T19 l) c).length % 2=1:=by omega
  rw [eO'] at hcm;rcases List.mem_append.1 hcm with h3 | h3
  ·have:=(hc.s1.bound (objs_mem.1 h3).1).2.1;omega
  ·have:=(hc.s3.bound (objs_mem.1 h3).1).1;omega
 have hob:∀a:Int,IsObj (O19 l) a→a≠b.at_→IsObj (O19 l') a:=fun a ⟨c,hcm,e⟩ hne=>by
  rw [eO] at hcm;refine ⟨c,?_,e⟩
  rw [eO']
  rcases List.mem_append.1 hcm with h3 | h3
  ·exact List.mem_append.2 (.inl h3)
  ·rcases List.mem_cons.1 h3 with h4 | h4
   ·exact absurd (by rw [←e,h4]) hne
   ·exact List.mem_append.2 (.inr h4)
 have rt':Rt l':=f.rt h a1 (fun c hcm=>by
  have hcl:=hsub c hcm;refine ⟨h.good 7 (by omega) (by omega) c hcl.1,h.good 8 (by omega) (by omega) c hcl.1,?_,?_,?_⟩
  ·have h9:Padded l (T19 l) c:=h.good 9 (by omega) (by omega) c hcl.1;by_cases h2:(kindsB (T19 l) c).length % 2=0
   ·exact .inl h2
   ·refine .inr ?_;rw [hfw c hcm _ (Nat.le_refl _) (fun e=>absurd e h2)]
    exact h9.resolve_left h2
  ·intro j hj hj2;rw [hfw c hcm j (by omega) (fun _=>hj)]
   exact h.good 10 (by omega) (by omega) c hcl.1 j hj hj2
  ·intro j hj hj2;rw [hfw c hcm j (by omega) (fun _=>hj)]
   have:fw l c j=0∨IsObj (O19 l) (fw l c j).toNat:=h.good 11 (by omega) (by omega) c hcl.1 j hj hj2;exact this.imp id fun h3=>hob _ h3 (hnr c hcl.1 hcl.2 j hj hj2)) (fun s hs hu=>hob _ (h.slots s hs hu) (hns s hs hu))
 have hidx:∀(a:Int) (j:Nat),idx (O19 l) a=some j→b.at_≠a→idx (O19 l') a=some (if j<n then j else j-1)∧j≠n:=fun a j h1 h2=>by
  rw [eO] at h1;rw [eO',hn]
  exact idx_drop h1 h2
 refine ⟨rt',?_,⟨P,lo++b :: hi',S,hc.eq,by simp,?_,a2⟩,by omega,by omega⟩
 ·have hOl:=objs_len h.al;rw [show seen l'=⟨T19 l',(O19 l').map (obOf l' (T19 l') (O19 l')),(slots l').map (slOf (O19 l'))⟩ from rfl,f.types,f.open_.2]
  show Mo.mk _ _ _=Mo.mk _ _ _;congr 1
  ·have hfs:∀c∈O19 l',obOf l' (T19 l) (O19 l') c=lowO (seen l) n (obOf l (T19 l) (O19 l) c):=fun c hcm=>by
    have hcl:=hsub c hcm;unfold obOf lowO;congr 1;show obFs l' (T19 l) (O19 l') c=(List.range (obFs l (T19 l) (O19 l) c).length).map fun j=>lowV n ((kindsB (T19 l) c).getD j 0) ((obFs l (T19 l) (O19 l) c).getD j 0)
    rw [obFs_len]
    unfold obFs;refine List.map_congr_left fun j hj=>?_;have hj:=List.mem_range.1 hj;have hg:((List.range (kindsB (T19 l) c).length).map fun i=>fldV (O19 l) ((kindsB (T19 l) c).getD i 0) (fw l c i)).getD j 0=fldV (O19 l) ((kindsB (T19 l) c).getD j 0) (fw l c j):=by
     have:=obFs_get (l:=l) (T:=T19 l) (O:=O19 l) hj;unfold obFs at this;rw [List.getD_eq_getElem?_getD,this];rfl
    rw [hg,hfw c hcm j (by omega) (fun _=>hj)]
    by_cases h3:((kindsB (T19 l) c).getD j 0).toNat=3
    ·rw [fldV_ref h3,fldV_ref h3]
     have h11:fw l c j=0∨IsObj (O19 l) (fw l c j).toNat:=h.good 11 (by omega) (by omega) c hcl.1 j hj h3;have hne:=hnr c hcl.1 hcl.2 j hj h3;unfold lowV;rcases h11 with h0 | h0
     ·rw [h0,refV_none (no_zero h.al (objs_low h.al)),refV_none (no_zero h.al (fun x hx=>objs_low h.al x (hsub x hx).1)),if_neg (by simp)]
     ·obtain ⟨x,y,g1,g2,g3,g4⟩:=idx_of h0;obtain ⟨g5,g6⟩:=hidx _ _ g1 (fun e=>hne e.symm)
      rw [refV_some g1,refV_some g5]
      have hx:(UInt64.ofNat (x+1)).toNat=x+1:=by rw [UInt64.toNat_ofNat',Nat.mod_eq_of_lt (by omega)]
      rw [hx]
      by_cases hlt:x<n
      ·rw [if_pos hlt,if_neg (by omega)]
      ·rw [if_neg hlt,if_pos ⟨h3,by omega⟩]
       have hx1:x≠0:=by omega
       apply UInt64.toNat.inj;rw [UInt64.toNat_sub_of_le _ _ (by rw [UInt64.le_iff_toNat_le,hx];simp),hx,UInt64.toNat_ofNat',Nat.mod_eq_of_lt (by omega)]
       show x-1+1=x+1-1;omega
    ·rw [fldV_not h3,fldV_not h3]
     unfold lowV;rw [if_neg (fun e=>h3 e.1)]
   show _=(((O19 l).map (obOf l (T19 l) (O19 l))).map (lowO (seen l) n)).eraseIdx n;rw [List.map_congr_left hfs,List.map_map,hn]
   have e3:∀F:Hb→Ob,(O19 l').map F=((O19 l).map F).eraseIdx (objs P).length:=fun F=>by
    rw [eO,eO',List.map_append,List.map_append,List.map_cons,List.eraseIdx_append_of_length_le (by simp)]
    simp
   exact e3 _
  ·show _=((slots l).map (slOf (O19 l))).map (lowS n)
   rw [List.map_map]
   refine List.map_congr_left fun s hs=>?_;show slOf (O19 l') s=lowS n (slOf (O19 l) s)
   unfold slOf;by_cases hu:s.used=true
   ·rw [if_pos hu,if_pos hu]
    obtain ⟨x,y,g1,g2,g3,g4⟩:=idx_of (h.slots s hs hu)
    obtain ⟨g5,g6⟩:=hidx _ _ g1 (fun e=>hns s hs hu e.symm)
    rw [g1,g5]
    unfold lowS lowA;rw [if_pos rfl]
    dsimp only;congr 1;by_cases hlt:x<n
    ·rw [if_pos hlt,if_neg (by omega)]
    ·rw [if_neg hlt,if_pos (by omega)];omega
   ·rw [if_neg hu,if_neg hu]
    unfold lowS;rw [if_neg hu]
 ·intro c hcm hne;rcases List.mem_append.1 hcm with h3 | h3
  ·exact k1 c h3
  ·rcases List.mem_cons.1 h3 with h4 | h4
   ·exact absurd h4 hne
   ·exact k2 c h4
end Go.Proofs.YteejianjjpdimaaGreat.L19
namespace Go.Proofs.YteejianjjpdimaaGreat
section
open Go.RowKit L01 L02 L05 L06 L07 L13 L14 L15 L16 L18 L19
theorem free_snoc {L:List Hb} {b:Hb}:free (L++[b])=free L++(if b.kind=2 then [b] else []):=by
 rw [free_app];congr 1;unfold free;by_cases h:b.kind=2
 ·rw [if_pos h,List.filter_cons_of_pos (by simpa using h)];rfl
 ·rw [if_neg h,List.filter_cons_of_neg (by simpa using h)];rfl
theorem FreeW_any (v:Value) (l:List UInt64) (F:List Hb) (r:Int) (hF:F=freeL l) (hr:r=allErr l) (w:World) (h:Words w v l):
  Calls Tryz.prog 95 #[v] w fun e w'=>∃x,e=.returned (.tuple #[x,.int .i64 r])∧OwnK w' w.heap.size x F∧Below w.heap.size w w':=by
 have B:=Below.refl w.heap.size w;have H:=hD h;obtain ⟨L,hL⟩:=exq (allL l)
 have WT:=hD (AllW_any v l L r hL hr)
 by_cases h0:r=0;case neg=>
  have hF0:F=[]:=by rw [hF,freeL,allL,if_neg (by rw [←hr];exact h0)];rfl
  subst hF0;have n1:(r != 0)=true:=by rw [bne_iff_ne];exact h0
  clear hF hr h hL h0;go_in;go_wp2_with fail;refine (WT.out _ (H.out.below B)).mono ?_;rintro e wa1 ⟨xl,rfl,ol,b⟩
  replace B:=B.trans (b.mono B.size);clear b;go_wp2
  go_ret2
  exact ⟨_,rfl,OwnK.nil _ _,B⟩
 case pos=>
  subst h0;have hl9:L.length≤960:=by rw [hL];exact all_len hr.symm
  have HF:=hD (show F=free L by rw [hF,hL];rfl)
  obtain ⟨N,hN⟩:=exq L.length;have HN:=hD hN;have hN9:N≤960:=by omega
  clear hF hr h hL hl9 hN;go_in;go_wp2_with fail;refine (WT.out _ (H.out.below B)).mono ?_;rintro e wa1 ⟨xl,rfl,ol,b⟩
  replace B:=B.trans (b.mono B.size);clear b;have HO:=hD ol.rd;have lx:=HO.out.len;rw [←HN.out] at lx;have hB1:=B.size;have HB:=hD (And.intro B hB1)
  have BB:Below wa1.heap.size wa1 wa1:=Below.refl _ _;have HBB:=hD BB;clear ol B BB hB1;go_wp2
  go_loopg [6,19] N (fun g xv i wr=>∃j:Nat,j≤N∧g=N-j∧i=.int .i64 j∧Hid (OwnK wr wa1.heap.size xv (free (L.take j))∧Below wa1.heap.size wa1 wr))
  case atStart=>exact ⟨0,by omega,by omega,rfl,hD ⟨by rw [List.take_zero];exact OwnK.nil _ _,HBB.out⟩⟩
  case round=>
   obtain ⟨j,hj,rfl,rfl,hh⟩:=hrel;clear HBB;obtain ⟨o1,B⟩:=hh.out;by_cases hlt:j<N
   ·obtain ⟨bb,oo,b,ia,m0,m1,m2,m3,m4,m5,hb,_⟩:=(Blks.below HO.out B).at_ (k:=j) (by rw [←HN.out];exact hlt)
    have htk:L.take (j+1)=L.take j++[b]:=by rw [List.take_add_one,hb.out];rfl
    have hsn:=free_snoc (L:=L.take j) (b:=b)
    rw [←htk] at hsn;have hB0:=B.size;by_cases hk:b.kind=2
    ·rw [if_pos hk] at hsn;have k1:(b.kind==2)=true:=by rw [beq_iff_eq];exact hk
     have HS:=hD hsn;have hol:(free (L.take j)).length≤j:=Nat.le_trans (List.length_filter_le _ _) (by rw [List.length_take];omega)
     clear hsn htk hk hb;go_upto_region 8 with (fail)
     refine wpb1 (64) (#[.int .i64 b.at_,.int .i64 b.size,.int .i64 b.kind,.int .i64 b.ty,.bool b.mark,.int .u64 b.next.toNat]) ?_;rintro wa2 ⟨g2,b⟩
     replace o1:=o1.below b;replace B:=B.trans (b.mono B.size);clear b;replace c_g2:=g2.five;have hne:=own_fresh o1;go_wp2_with (at_builtin;refine wpList_append (by rfl) rfl rfl rfl Tryz.underlying59 info_block rfl (by omega) (by exact own_below o1 ((Below.refl _ _).alloc (Nat.le_refl _) _)) (by exact lit_block b (by simp)) (bkL_one b) (by omega) (by omega) (by exact B.alloc B.size _) (Nat.le_refl _) ?_;intro v1 w3 o3 B3 g3)
     have o4:OwnK w3 wa1.heap.size v1 (free (L.take (j+1))):=by rw [HS.out];exact OwnK.of o3 (tabB_snoc _ b)
     have HZ:=hD (And.intro o4 B3)
     go_roundg (N-(j+1))
     case measure=>omega
     case rel=>exact ⟨j+1,by omega,rfl,by go_num,HZ⟩
    ·rw [if_neg hk,List.append_nil] at hsn;have k1:(b.kind==2)=false:=by rw [beq_eq_false_iff_ne];exact hk
     have HS:=hD hsn;clear hsn htk hk hb;go_upto_region 8 with (fail)
     refine wpb1 (64) (#[.int .i64 b.at_,.int .i64 b.size,.int .i64 b.kind,.int .i64 b.ty,.bool b.mark,.int .u64 b.next.toNat]) ?_;rintro wa3 ⟨g2,b⟩
     replace o1:=o1.below b;replace B:=B.trans (b.mono B.size);clear b;replace c_g2:=g2.five;have HZ:=hD (And.intro o1 B)
     rw [←HS.out] at HZ;go_wp2
     go_roundg (N-(j+1))
     case measure=>omega
     case rel=>exact ⟨j+1,by omega,rfl,by go_num,HZ⟩
   ·obtain rfl:j=N:=by omega
    have e:free (L.take j)=F:=by rw [HF.out,HN.out,List.take_length]
    rw [e] at o1;clear e;obtain ⟨B0,hB1⟩:=HB.out;have HBZ:=hD (And.intro (o1.mono hB1) (B0.trans (B.mono hB1)))
    clear o1 B B0;go_wp2
    go_ret2
    exact ⟨_,rfl,HBZ.out⟩
end
end Go.Proofs.YteejianjjpdimaaGreat
