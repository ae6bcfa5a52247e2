/- Contracts of the functions that the laws 'C' reach, part 3. No condition. -/
import Derived.Test.YteejianjjpdimaaMCb
set_option linter.unusedVariables false
set_option linter.unusedSimpArgs false
set_option maxRecDepth 100000
set_option maxHeartbeats 8000000
namespace Go.Proofs.Yteejianjjpdimaa.L20
open L02 L13 L18
def kidAt (m:Mo) (o:Ob) (i:Nat):Option Nat:=if ((ty m.types o).getD i 0).toNat=3∧0<(o.fs.getD i 0).toNat then some ((o.fs.getD i 0).toNat-1) else none
def kidsTo (m:Mo) (o:Ob) (p:Nat):List Nat:=(List.range p).filterMap (kidAt m o)
def kids (m:Mo) (n:Nat):List Nat:=kidsTo m (ob m n) (ob m n).fs.length
def rootOf (s:Sl):Option Nat:=if s.used=true then some s.at_.toNat else none
def roots (m:Mo):List Nat:=m.slots.filterMap rootOf
inductive Rs (m:Mo):List Nat→List Nat→List Nat→Prop
 | nil (ord:List Nat):Rs m ord [] ord
 | seen {ord l out:List Nat} {n:Nat}:n∈ord→Rs m ord l out→Rs m ord (n :: l) out
 | new {ord l out:List Nat} {n:Nat}:n∉ord→Rs m (ord++[n]) (kids m n++l) out→Rs m ord (n :: l) out
section
variable {m:Mo} {ord l out:List Nat}
theorem Rs.det (h:Rs m ord l out):∀{out'},Rs m ord l out'→out=out':=by
 induction h with
 | nil ord=>intro o h;cases h;rfl
 | seen h1 _ ih=>intro o h;cases h with
  | seen _ h=>exact ih h
  | new h2 _=>exact absurd h1 h2
 | new h1 _ ih=>intro o h;cases h with
  | seen h2 _=>exact absurd h2 h1
  | new _ h=>exact ih h
theorem Rs.app (h:Rs m ord l out):∀{a b},l=a++b→∃mid,Rs m ord a mid∧Rs m mid b out:=by
 induction h with
 | nil ord=>
  intro a b h;obtain ⟨rfl,rfl⟩:=List.append_eq_nil_iff.1 h.symm;exact ⟨_,.nil _,.nil _⟩
 | @seen ord l out n h1 h2 ih=>
  intro a b h;cases a with
  | nil=>rw [List.nil_append] at h;subst h;exact ⟨_,.nil _,.seen h1 h2⟩
  | cons x a=>
   rw [List.cons_append] at h;injection h with e1 e2;subst e1
   obtain ⟨mid,p1,p2⟩:=ih e2;exact ⟨mid,.seen h1 p1,p2⟩
 | @new ord l out n h1 h2 ih=>
  intro a b h;cases a with
  | nil=>rw [List.nil_append] at h;subst h;exact ⟨_,.nil _,.new h1 h2⟩
  | cons x a=>
   rw [List.cons_append] at h;injection h with e1 e2;subst e1
   obtain ⟨mid,p1,p2⟩:=ih (a:=kids m n++a) (b:=b) (by rw [e2,List.append_assoc])
   exact ⟨mid,.new h1 p1,p2⟩
theorem Rs.join {mid:List Nat} {a:List Nat} (h:Rs m ord a mid):∀{b out},Rs m mid b out→Rs m ord (a++b) out:=by
 induction h with
 | nil ord=>intro b out h;exact h
 | seen h1 _ ih=>intro b out h;exact .seen h1 (ih h)
 | new h1 _ ih=>
  intro b out h;have h2:=ih h;rw [List.append_assoc] at h2;exact .new h1 h2
theorem Rs.pre (h:Rs m ord l out):ord <+: out:=by
 induction h with
 | nil ord=>exact List.prefix_refl _
 | seen _ _ ih=>exact ih
 | new _ _ ih=>exact (List.prefix_append _ _).trans ih
theorem Rs.nodup (h:Rs m ord l out):ord.Nodup→out.Nodup:=by
 induction h with
 | nil ord=>exact id
 | seen _ _ ih=>exact ih
 | @new ord l out n h1 _ ih=>
  intro hn;refine ih (List.nodup_append.2 ⟨hn,by simp,?_⟩)
  intro x hx y hy e;rw [List.mem_singleton] at hy;exact h1 (by rw [←hy,←e];exact hx)
theorem Rs.all {p:Nat→Prop} (hk:∀n,p n→∀k∈kids m n,p k) (h:Rs m ord l out):(∀n∈ord,p n)→(∀n∈l,p n)→∀n∈out,p n:=by
 induction h with
 | nil ord=>intro h _;exact h
 | seen _ _ ih=>intro h1 h2;exact ih h1 fun n hn=>h2 n (List.mem_cons_of_mem _ hn)
 | @new ord l out n _ _ ih=>
  intro h1 h2;have hpn:=h2 n List.mem_cons_self;refine ih (fun x hx=>?_) fun x hx=>?_
  ·rcases List.mem_append.1 hx with h | h
   ·exact h1 x h
   ·rw [List.mem_singleton.1 h];exact hpn
  ·rcases List.mem_append.1 hx with h | h
   ·exact hk n hpn x h
   ·exact h2 x (List.mem_cons_of_mem _ h)
theorem Rs.mem (h:Rs m ord l out):∀n∈l,n∈out:=by
 induction h with
 | nil ord=>intro n h;cases h
 | seen h1 h2 ih=>
  intro x hx;rcases List.mem_cons.1 hx with h | h
  ·rw [h];exact h2.pre.subset h1
  ·exact ih x h
 | new h1 h2 ih=>
  intro x hx;rcases List.mem_cons.1 hx with h | h
  ·rw [h];exact h2.pre.subset (List.mem_append_right _ (by simp))
  ·exact ih x (List.mem_append_right _ h)
theorem Rs.closed (h:Rs m ord l out):(∀n∈ord,∀k∈kids m n,k∈ord∨k∈l)→∀n∈out,∀k∈kids m n,k∈out:=by
 induction h with
 | nil ord=>
  intro h n hn k hk;rcases h n hn k hk with h | h
  ·exact h
  ·cases h
 | seen h1 h2 ih=>
  intro h;refine ih fun x hx k hk=>?_;rcases h x hx k hk with h | h
  ·exact .inl h
  ·rcases List.mem_cons.1 h with h | h
   ·rw [h];exact .inl h1
   ·exact .inr h
 | new h1 h2 ih=>
  intro h;refine ih fun x hx k hk=>?_;rcases List.mem_append.1 hx with hx | hx
  ·rcases h x hx k hk with h | h
   ·exact .inl (List.mem_append_left _ h)
   ·rcases List.mem_cons.1 h with h | h
    ·rw [h];exact .inl (List.mem_append_right _ (by simp))
    ·exact .inr (List.mem_append_right _ h)
  ·rw [List.mem_singleton.1 hx] at hk;exact .inr (List.mem_append_left _ hk)
theorem nodup_lt {N:Nat} {l:List Nat} (h:l.Nodup) (hl:∀n∈l,n<N):l.length≤N:=by
 have:=List.Nodup.length_le_of_subset (l₁:=l) (l₂:=List.range N) h (fun x hx=>List.mem_range.2 (hl x hx))
 simpa using this
theorem Rs.ex {N:Nat} (hk:∀n,n<N→∀k∈kids m n,k<N):∀(d:Nat) (ord l:List Nat),N-ord.length=d→ord.Nodup→(∀n∈ord,n<N)→(∀n∈l,n<N)→∃out,Rs m ord l out:=by
 intro d;induction d using Nat.strongRecOn with
 | ind d ih=>
  intro ord l hd hn ho;induction l with
  | nil=>intro _;exact ⟨_,.nil _⟩
  | cons n l ihl=>
   intro hl;have hl':∀x∈l,x<N:=fun x hx=>hl x (List.mem_cons_of_mem _ hx)
   have hnN:=hl n List.mem_cons_self;by_cases hm:n∈ord
   ·obtain ⟨out,h⟩:=ihl hl';exact ⟨out,.seen hm h⟩
   ·have hn2:(ord++[n]).Nodup:=List.nodup_append.2 ⟨hn,by simp,fun x hx y hy e=>hm (by rw [←List.mem_singleton.1 hy,←e];exact hx)⟩
    have ho2:∀x∈ord++[n],x<N:=fun x hx=>by
     rcases List.mem_append.1 hx with h | h
     ·exact ho x h
     ·rw [List.mem_singleton.1 h];exact hnN
    have h1:=nodup_lt hn2 ho2;simp at h1;obtain ⟨out,h⟩:=ih (N-(ord++[n]).length) (by simp;omega) (ord++[n]) (kids m n++l) rfl hn2 ho2 (fun x hx=>by
     rcases List.mem_append.1 hx with h | h
     ·exact hk n hnN x h
     ·exact hl' x h)
    exact ⟨out,.new hm h⟩
end
inductive Rn (m:Mo):Nat→List Nat→List Nat→List Nat→Prop
 | nil (ord:List Nat):Rn m 0 ord [] ord
 | seen {ord l out:List Nat} {n d:Nat}:n∈ord→Rn m d ord l out→Rn m (d+1) ord (n :: l) out
 | new {ord l out:List Nat} {n d:Nat}:n∉ord→Rn m d (ord++[n]) (kids m n++l) out→Rn m (d+1) ord (n :: l) out
theorem Rs.steps {m:Mo} {ord l out:List Nat} (h:Rs m ord l out):∃d,Rn m d ord l out:=by
 induction h with
 | nil ord=>exact ⟨0,.nil _⟩
 | seen h1 _ ih=>obtain ⟨d,h⟩:=ih;exact ⟨d+1,.seen h1 h⟩
 | new h1 _ ih=>obtain ⟨d,h⟩:=ih;exact ⟨d+1,.new h1 h⟩
theorem Rn.rs {m:Mo} {ord l out:List Nat} {d:Nat} (h:Rn m d ord l out):Rs m ord l out:=by
 induction h with
 | nil ord=>exact .nil _
 | seen h1 _ ih=>exact .seen h1 ih
 | new h1 _ ih=>exact .new h1 ih
def kidSum (m:Mo) (l:List Nat):Nat:=(l.map fun n=>(kids m n).length).sum
theorem Rn.count {m:Mo} {ord l out:List Nat} {d:Nat} (h:Rn m d ord l out):d+kidSum m ord=l.length+kidSum m out:=by
 induction h with
 | nil ord=>simp
 | seen h1 _ ih=>simp;omega
 | new h1 _ ih=>simp [kidSum] at ih ⊢;omega
theorem Rn.len {m:Mo} {ord l out:List Nat} {d:Nat} (h:Rn m d ord l out):l.length≤d:=by
 induction h with
 | nil ord=>simp
 | seen h1 _ ih=>simp;exact ih
 | new h1 _ ih=>simp at ih ⊢;omega
theorem kids_len (m:Mo) (n:Nat):(kids m n).length≤(ob m n).fs.length:=by
 rw [kids,kidsTo]
 exact Nat.le_trans (List.length_filterMap_le _ _) (by simp)
theorem kidSum_le {m:Mo} {c:Nat}:∀(l:List Nat),(∀n∈l,(ob m n).fs.length≤c)→kidSum m l≤c*l.length
 | [],_=>by simp [kidSum]
 | n :: l,h=>by
  have h1:=kidSum_le l (fun x hx=>h x (List.mem_cons_of_mem _ hx))
  have h2:=kids_len m n;have h3:=h n List.mem_cons_self;simp only [kidSum,List.map_cons,List.sum_cons,List.length_cons] at h1 ⊢;rw [Nat.mul_add,Nat.mul_one];omega
theorem Rn.all {m:Mo} {p:Nat→Prop} (hk:∀n,p n→∀k∈kids m n,p k) {ord l out:List Nat} {d:Nat} (h:Rn m d ord l out) (h1:∀n∈ord,p n) (h2:∀n∈l,p n):∀n∈out,p n:=h.rs.all hk h1 h2
theorem Rn.pop {m:Mo} {ord l out:List Nat} {n d:Nat} (h:Rn m d ord (n :: l) out):∃d',d=d'+1∧((n∈ord∧Rn m d' ord l out)∨(n∉ord∧Rn m d' (ord++[n]) (kids m n++l) out)):=by
 cases h with
 | seen h1 h2=>exact ⟨_,rfl,.inl ⟨h1,h2⟩⟩
 | new h1 h2=>exact ⟨_,rfl,.inr ⟨h1,h2⟩⟩
theorem Rn.end {m:Mo} {ord out:List Nat} {d:Nat} (h:Rn m d ord [] out):out=ord:=by cases h;rfl
def kidsFrom (m:Mo) (o:Ob) (p:Nat):List Nat:=((List.range o.fs.length).drop p).filterMap (kidAt m o)
theorem kidsFrom_zero (m:Mo) (n:Nat):kidsFrom m (ob m n) 0=kids m n:=rfl
theorem kidsFrom_end (m:Mo) (o:Ob):kidsFrom m o o.fs.length=[]:=by rw [kidsFrom,List.drop_of_length_le (by simp)];rfl
theorem kidsFrom_step {m:Mo} {o:Ob} {p:Nat} (hp:p<o.fs.length):kidsFrom m o p=(match kidAt m o p with | none=>[] | some c=>[c])++kidsFrom m o (p+1):=by
 have hd:(List.range o.fs.length).drop p=p :: (List.range o.fs.length).drop (p+1):=by
  rw [List.drop_eq_getElem_cons (by simpa using hp)];simp
 rw [kidsFrom,hd,List.filterMap_cons]
 cases kidAt m o p <;> rfl
theorem kidsTo_step {m:Mo} {o:Ob} {p:Nat}:kidsTo m o (p+1)=kidsTo m o p++(match kidAt m o p with | none=>[] | some c=>[c]):=by
 rw [kidsTo,List.range_succ,List.filterMap_append]
 congr 1;cases h:kidAt m o p <;> simp [h]
theorem kids_split {m:Mo} {o:Ob} {p:Nat} (hp:p≤o.fs.length):kidsTo m o o.fs.length=kidsTo m o p++kidsFrom m o p:=by
 rw [kidsTo,kidsTo,kidsFrom,←List.filterMap_append]
 congr 1
 have:=List.take_append_drop p (List.range o.fs.length)
 rw [←this]
 congr 1
 ·apply List.ext_getElem?;intro i;rw [List.getElem?_take]
  rcases Nat.lt_or_ge i p with h | h
  ·rw [if_pos h,List.getElem?_range (by omega),List.getElem?_range h]
  ·rw [if_neg (by omega),List.getElem?_eq_none (by simpa using h)]
 ·simp [List.drop_append,Nat.min_eq_left hp]
def canN (m:Mo) (out:List Nat):List Int:=(List.range m.objs.length).map fun n=>if n∈out then (out.idxOf n:Int) else -1
def canM (m:Mo) (out:List Nat):Mo:=numM m (canN m out)
end Go.Proofs.Yteejianjjpdimaa.L20
namespace Go.Proofs.Yteejianjjpdimaa.L20
open L02 L13 L18
def Like (m m':Mo):Prop:=m'.types=m.types∧m'.objs.length=m.objs.length∧∀k,(ob m' k).ty=(ob m k).ty∧(ob m' k).fs.length=(ob m k).fs.length
theorem Like.refl (m:Mo):Like m m:=⟨rfl,rfl,fun _=>⟨rfl,rfl⟩⟩
def mapO (φ:UInt8→UInt64→UInt64) (T:List (List UInt8)) (o:Ob) (i:Nat):Ob:=⟨o.ty,(List.range o.fs.length).map fun j=>if j<i then φ ((ty T o).getD j 0) (o.fs.getD j 0) else o.fs.getD j 0⟩
def mapP (φ:UInt8→UInt64→UInt64) (m:Mo) (n i:Nat):Mo:=⟨m.types,(List.range m.objs.length).map fun k=>if k<n then mapO φ m.types (ob m k) (ob m k).fs.length else if k=n then mapO φ m.types (ob m k) i else ob m k,m.slots⟩
section
variable {φ:UInt8→UInt64→UInt64} {m:Mo} {n i:Nat}
theorem mapO_zero (T:List (List UInt8)) (o:Ob):mapO φ T o 0=o:=by
 obtain ⟨t,fs⟩:=o
 have:(List.range fs.length).map (fun j=>fs.getD j 0)=fs:=by
  apply List.ext_getElem?;intro k;rcases Nat.lt_or_ge k fs.length with h | h
  ·simp [h,List.getD_eq_getElem?_getD]
  ·rw [List.getElem?_eq_none (by simpa using h),List.getElem?_eq_none h]
 simp only [List.getD_eq_getElem?_getD] at this;simp [mapO,this]
theorem mapO_len (T:List (List UInt8)) (o:Ob) (i:Nat):(mapO φ T o i).fs.length=o.fs.length:=by simp [mapO]
theorem ob_mapP (k:Nat) (hk:k<m.objs.length):ob (mapP φ m n i) k=if k<n then mapO φ m.types (ob m k) (ob m k).fs.length else if k=n then mapO φ m.types (ob m k) i else ob m k:=by
 rw [ob,List.getD_eq_getElem?_getD]
 simp [mapP,hk]
theorem mapP_zero:mapP φ m 0 0=m:=by
 obtain ⟨T,L,S⟩:=m;simp only [mapP]
 congr 1;apply List.ext_getElem?;intro k;rcases Nat.lt_or_ge k L.length with h | h
 ·simp [h,mapO_zero,ob,List.getD_eq_getElem?_getD]
 ·rw [List.getElem?_eq_none (by simpa using h),List.getElem?_eq_none h]
theorem mapP_next:mapP φ m n (ob m n).fs.length=mapP φ m (n+1) 0:=by
 simp only [mapP]
 congr 1;refine List.map_congr_left fun k _=>?_;by_cases h1:k<n
 ·rw [if_pos h1,if_pos (by omega)]
 ·by_cases h2:k=n
  ·subst h2;rw [if_neg h1,if_pos rfl,if_pos (by omega)]
  ·rw [if_neg h1,if_neg h2,if_neg (by omega)]
   by_cases h3:k=n+1
   ·rw [if_pos h3,mapO_zero]
   ·rw [if_neg h3]
theorem mapP_like:Like m (mapP φ m n i):=by
 refine ⟨rfl,by simp [mapP],fun k=>?_⟩
 rcases Nat.lt_or_ge k m.objs.length with h | h
 ·rw [ob_mapP k h]
  split
  ·exact ⟨rfl,mapO_len _ _ _⟩
  ·split
   ·exact ⟨rfl,mapO_len _ _ _⟩
   ·exact ⟨rfl,rfl⟩
 ·rw [ob,ob,List.getD_eq_getElem?_getD,List.getD_eq_getElem?_getD,List.getElem?_eq_none (by simpa [mapP] using h),List.getElem?_eq_none h]
  exact ⟨rfl,rfl⟩
theorem mapO_get (T:List (List UInt8)) (o:Ob) {i j:Nat} (hj:j<o.fs.length):(mapO φ T o i).fs[j]?=some (if j<i then φ ((ty T o).getD j 0) (o.fs.getD j 0) else o.fs.getD j 0):=by
 simp [mapO,hj]
theorem mapO_set (T:List (List UInt8)) (o:Ob) {i:Nat} (hi:i<o.fs.length):(mapO φ T o i).fs.set i (φ ((ty T o).getD i 0) (o.fs.getD i 0))=(mapO φ T o (i+1)).fs:=by
 apply List.ext_getElem?;intro j;rcases Nat.lt_or_ge j o.fs.length with h | h
 ·by_cases hij:i=j
  ·subst hij;rw [List.getElem?_set_self (by rw [mapO_len];exact hi),mapO_get T o hi,if_pos (by omega)]
  ·rw [List.getElem?_set_ne hij,mapO_get T o h,mapO_get T o h]
   by_cases h1:j<i
   ·rw [if_pos h1,if_pos (by omega)]
   ·rw [if_neg h1,if_neg (by omega)]
 ·rw [List.getElem?_eq_none (by rw [List.length_set,mapO_len];exact h),List.getElem?_eq_none (by rw [mapO_len];exact h)]
theorem mapP_step (hn:n<m.objs.length) (hi:i<(ob m n).fs.length):putF (mapP φ m n i) n i (φ ((ty m.types (ob m n)).getD i 0) ((ob m n).fs.getD i 0))=mapP φ m n (i+1):=by
 have hob:ob (mapP φ m n i) n=mapO φ m.types (ob m n) i:=by rw [ob_mapP n hn,if_neg (by omega),if_pos rfl]
 rw [putF,hob]
 show (⟨m.types,(mapP φ m n i).objs.set n ⟨(ob m n).ty,_⟩,m.slots⟩:Mo)=⟨m.types,(mapP φ m n (i+1)).objs,m.slots⟩
 congr 1;rw [mapO_set m.types _ hi]
 apply List.ext_getElem?;intro k;rcases Nat.lt_or_ge k m.objs.length with h | h
 ·by_cases hk:n=k
  ·subst hk;rw [List.getElem?_set_self (by simpa [mapP] using h)]
   simp [mapP,h,mapO]
  ·rw [List.getElem?_set_ne hk]
   simp only [mapP,List.getElem?_map,List.getElem?_range h,Option.map_some]
   by_cases h1:k<n
   ·rw [if_pos h1,if_pos h1]
   ·rw [if_neg h1,if_neg h1,if_neg (Ne.symm hk),if_neg (Ne.symm hk)]
 ·rw [List.getElem?_eq_none (by simpa [mapP] using h),List.getElem?_eq_none (by simpa [mapP] using h)]
theorem mapP_skip (h:φ ((ty m.types (ob m n)).getD i 0) ((ob m n).fs.getD i 0)=(ob m n).fs.getD i 0):mapP φ m n (i+1)=mapP φ m n i:=by
 simp only [mapP]
 congr 1;refine List.map_congr_left fun k _=>?_;by_cases h1:k<n
 ·rw [if_pos h1,if_pos h1]
 ·by_cases h2:k=n
  ·subst h2;rw [if_neg h1,if_pos rfl,if_neg h1,if_pos rfl]
   simp only [mapO]
   congr 1;refine List.map_congr_left fun j _=>?_;by_cases h3:j<k;all_goals
    by_cases h4:j=i
    ·subst h4;simp only [List.getD_eq_getElem?_getD] at h;simp [h]
    ·have:(j<i+1)=(j<i):=by rw [eq_iff_iff];omega
     simp only [this]
  ·rw [if_neg h1,if_neg h2,if_neg h1,if_neg h2]
theorem mapP_fld (hn:n<m.objs.length) (hi:i<(ob m n).fs.length):∃o,(mapP φ m n i).objs[n]?=some o∧o.fs[i]?=some ((ob m n).fs.getD i 0):=by
 refine ⟨mapO φ m.types (ob m n) i,?_,?_⟩
 ·simp [mapP,hn]
 ·rw [mapO_get _ _ hi,if_neg (by omega)]
theorem mapP_done:mapP φ m m.objs.length 0=⟨m.types,m.objs.map fun o=>mapO φ m.types o o.fs.length,m.slots⟩:=by
 simp only [mapP]
 congr 1;apply List.ext_getElem?;intro k;rcases Nat.lt_or_ge k m.objs.length with h | h
 ·simp [h,ob,List.getD_eq_getElem?_getD]
 ·rw [List.getElem?_eq_none (by simpa using h),List.getElem?_eq_none (by simpa using h)]
end
end Go.Proofs.Yteejianjjpdimaa.L20
namespace Go.Proofs.Yteejianjjpdimaa.L20
open L02 L13 L18
def mapT {α:Type} (f:α→α) (L:List α) (j:Nat):List α:=(L.take j).map f++L.drop j
section
variable {α:Type} {f:α→α} {L:List α} {k:Nat} {s:α}
theorem mapT_zero:mapT f L 0=L:=by simp [mapT]
theorem mapT_done (h:L.length≤k):mapT f L k=L.map f:=by simp [mapT,List.take_of_length_le h,List.drop_of_length_le h]
theorem mapT_len:(mapT f L k).length=L.length:=by simp [mapT];omega
theorem mapT_get (hs:L[k]?=some s):(mapT f L k)[k]?=some s:=by
 have hk:k<L.length:=(List.getElem?_eq_some_iff.1 hs).1;rw [mapT,List.getElem?_append_right (by simp;omega)]
 simp [Nat.min_eq_left (Nat.le_of_lt hk),hs]
theorem mapT_set (hs:L[k]?=some s):(mapT f L k).set k (f s)=mapT f L (k+1):=by
 have hk:k<L.length:=(List.getElem?_eq_some_iff.1 hs).1;have hd:L.drop k=s :: L.drop (k+1):=by
  rw [List.drop_eq_getElem_cons hk];congr 1;rw [List.getElem?_eq_getElem hk] at hs;injection hs
 rw [mapT,mapT,List.take_add_one,hs,hd]
 rw [List.set_append_right _ _ (by simp;omega)]
 simp [Nat.min_eq_left (Nat.le_of_lt hk)]
theorem mapT_same (hs:L[k]?=some s) (hf:f s=s):mapT f L (k+1)=mapT f L k:=by
 rw [←mapT_set hs,hf]
 apply List.ext_getElem?;intro i;by_cases hi:i=k
 ·subst hi;rw [List.getElem?_set_self (by rw [mapT_len];exact (List.getElem?_eq_some_iff.1 hs).1),mapT_get hs]
 ·rw [List.getElem?_set_ne (Ne.symm hi)]
end
def refTo (m:Mo) (q n i:Nat):Prop:=∃a b,(a<n∨a=n∧b<i)∧a<m.objs.length∧b<(ob m a).fs.length∧a≠q∧isRef m (ob m a) b q
def sloTo (S:List Sl) (q j:Nat):Prop:=∃a s,a<j∧S[a]?=some s∧s.used=true∧s.at_=(q:Int)
section
variable {m:Mo} {q n i:Nat}
theorem refTo_zero:¬refTo m q 0 0:=by rintro ⟨a,b,h,_⟩;omega
theorem refTo_next (hn:n<m.objs.length):refTo m q n (ob m n).fs.length↔refTo m q (n+1) 0:=by
 constructor
 ·rintro ⟨a,b,h,h1,h2,h3⟩;exact ⟨a,b,by omega,h1,h2,h3⟩
 ·rintro ⟨a,b,h,h1,h2,h3⟩
  refine ⟨a,b,?_,h1,h2,h3⟩
  by_cases ha:a=n
  ·subst ha;exact .inr ⟨rfl,h2⟩
  ·exact .inl (by omega)
theorem refTo_step (hn:n<m.objs.length) (hi:i<(ob m n).fs.length):refTo m q n (i+1)↔(refTo m q n i∨(n≠q∧isRef m (ob m n) i q)):=by
 constructor
 ·rintro ⟨a,b,h,h1,h2,h3,h4⟩
  by_cases hab:a=n∧b=i
  ·obtain ⟨rfl,rfl⟩:=hab;exact .inr ⟨h3,h4⟩
  ·exact .inl ⟨a,b,by omega,h1,h2,h3,h4⟩
 ·rintro (⟨a,b,h,h1,h2,h3,h4⟩ | ⟨h3,h4⟩)
  ·exact ⟨a,b,by omega,h1,h2,h3,h4⟩
  ·exact ⟨n,i,by omega,hn,hi,h3,h4⟩
theorem refTo_done:refTo m q m.objs.length 0↔∃i,i<m.objs.length∧i≠q∧∃k,k<(ob m i).fs.length∧isRef m (ob m i) k q:=by
 constructor
 ·rintro ⟨a,b,h,h1,h2,h3,h4⟩;exact ⟨a,h1,h3,b,h2,h4⟩
 ·rintro ⟨a,h1,h3,b,h2,h4⟩;exact ⟨a,b,.inl h1,h1,h2,h3,h4⟩
theorem sloTo_zero {S:List Sl}:¬sloTo S q 0:=by rintro ⟨a,s,h,_⟩;omega
theorem sloTo_step {S:List Sl} {j:Nat} {s:Sl} (hs:S[j]?=some s):sloTo S q (j+1)↔(sloTo S q j∨(s.used=true∧s.at_=(q:Int))):=by
 constructor
 ·rintro ⟨a,t,h,h1,h2⟩
  by_cases ha:a=j
  ·subst ha;rw [hs] at h1;injection h1 with h1;subst h1;exact .inr h2
  ·exact .inl ⟨a,t,by omega,h1,h2⟩
 ·rintro (⟨a,t,h,h1,h2⟩ | h2)
  ·exact ⟨a,t,by omega,h1,h2⟩
  ·exact ⟨j,s,by omega,hs,h2⟩
theorem busy_iff {k:Nat} {g:Int} (hk:k<m.slots.length) (n:Nat):Busy m (k:Int) n↔(sloTo (m.slots.set k ⟨g,false,0⟩) n m.slots.length∨refTo m n m.objs.length 0):=by
 rw [refTo_done]
 refine or_congr ?_ Iff.rfl;constructor
 ·rintro ⟨i,hi,hne,hu,ha⟩
  refine ⟨i,m.slots[i],hi,?_,?_⟩
  ·rw [List.getElem?_set_ne (by omega),List.getElem?_eq_getElem hi]
  ·simp only [List.getD_eq_getElem?_getD,List.getElem?_eq_getElem hi,Option.getD_some] at hu ha;exact ⟨hu,ha⟩
 ·rintro ⟨i,s,hi,hs,hu,ha⟩
  by_cases hik:k=i
  ·subst hik;rw [List.getElem?_set_self hk] at hs;injection hs with hs;subst hs;cases hu
  ·rw [List.getElem?_set_ne hik] at hs;refine ⟨i,hi,by omega,?_,?_⟩
   ·simp [List.getD_eq_getElem?_getD,hs,hu]
   ·simp [List.getD_eq_getElem?_getD,hs,ha]
end
theorem range_filter (a:Nat):∀N,(List.range N).filter (fun n=>decide (n=a))=if a<N then [a] else []
 | 0=>by simp
 | N+1=>by
  rw [List.range_succ,List.filter_append,range_filter a N]
  by_cases h:a<N
  ·rw [if_pos h,if_pos (by omega)]
   have:¬N=a:=by omega
   simp [this]
  ·rw [if_neg h]
   by_cases h2:a=N
   ·subst h2;simp
   ·rw [if_neg (by omega)]
    have:¬N=a:=fun e=>h2 e.symm;simp [this]
theorem free_map {m:Mo} {q:Nat} {S:List Sl}:mapP (lowV q) ⟨m.types,m.objs,S⟩ m.objs.length 0=⟨m.types,m.objs.map (lowO m q),S⟩:=by
 have:=mapP_done (φ:=lowV q) (m:=⟨m.types,m.objs,S⟩)
 dsimp only at this;rw [this]
 congr 1;refine List.map_congr_left fun o _=>?_;rw [mapO,lowO]
 congr 1;refine List.map_congr_left fun j hj=>?_;rw [if_pos (List.mem_range.1 hj)]
end Go.Proofs.Yteejianjjpdimaa.L20
namespace Go.Proofs.Yteejianjjpdimaa.L20
open L02 L13 L18
def rootsFrom (m:Mo) (j:Nat):List Nat:=(m.slots.drop j).filterMap rootOf
theorem rootsFrom_zero (m:Mo):rootsFrom m 0=roots m:=rfl
theorem rootsFrom_end (m:Mo):rootsFrom m m.slots.length=[]:=by rw [rootsFrom,List.drop_of_length_le (Nat.le_refl _)];rfl
theorem rootsFrom_step {m:Mo} {j:Nat} {s:Sl} (hs:m.slots[j]?=some s):rootsFrom m j=(match rootOf s with | none=>[] | some c=>[c])++rootsFrom m (j+1):=by
 have hj:j<m.slots.length:=(List.getElem?_eq_some_iff.1 hs).1;have hd:m.slots.drop j=s :: m.slots.drop (j+1):=by
  rw [List.drop_eq_getElem_cons hj];congr 1;rw [List.getElem?_eq_getElem hj] at hs;injection hs
 rw [rootsFrom,hd,List.filterMap_cons]
 cases rootOf s <;> rfl
theorem rootsFrom_len (m:Mo) (j:Nat):(rootsFrom m j).length≤m.slots.length:=Nat.le_trans (List.length_filterMap_le _ _) (by simp)
def natI (l:List Nat):List Int:=l.map fun n:Nat=>(n:Int)
theorem natI_len (l:List Nat):(natI l).length=l.length:=by simp [natI]
theorem natI_snoc (l:List Nat) (x:Nat):natI (l++[x])=natI l++[(x:Int)]:=by simp [natI]
def seenV (N:Nat) (ord:List Nat):List Bool:=(List.range N).map fun i=>decide (i∈ord)
theorem seenV_len (N:Nat) (ord:List Nat):(seenV N ord).length=N:=by simp [seenV]
theorem seenV_get {N n:Nat} (ord:List Nat) (h:n<N):(seenV N ord)[n]?=some (decide (n∈ord)):=by simp [seenV,h]
theorem seenV_set {N n:Nat} (ord:List Nat) (h:n<N):(seenV N ord).set n true=seenV N (ord++[n]):=by
 apply List.ext_getElem?;intro i;rcases Nat.lt_or_ge i N with hi | hi
 ·by_cases hn:n=i
  ·subst hn;rw [List.getElem?_set_self (by rw [seenV_len];exact h),seenV_get _ h];simp
  ·rw [List.getElem?_set_ne hn,seenV_get _ hi,seenV_get _ hi]
   simp [Ne.symm hn]
 ·rw [List.getElem?_eq_none (by rw [List.length_set,seenV_len];exact hi),List.getElem?_eq_none (by rw [seenV_len];exact hi)]
theorem seenV_nil (N:Nat):seenV N []=List.replicate N false:=by
 apply List.ext_getElem?;intro i;rcases Nat.lt_or_ge i N with hi | hi
 ·rw [seenV_get _ hi,List.getElem?_replicate,if_pos hi];rfl
 ·rw [List.getElem?_eq_none (by rw [seenV_len];exact hi),List.getElem?_eq_none (by simpa using hi)]
def iOf:Nat→Int
 | 0=>-1
 | k+1=>(k:Int)
theorem iOf_pred (k:Nat):(k:Int)-1=iOf k:=by cases k with | zero=>rfl | succ k=>simp only [iOf];omega
theorem iOf_le (k:Nat):iOf k=(k:Int)-1:=(iOf_pred k).symm
theorem kidAt_some {m:Mo} {o:Ob} {i c:Nat} (h:kidAt m o i=some c):((ty m.types o).getD i 0).toNat=3∧(o.fs.getD i 0).toNat=c+1:=by
 unfold kidAt at h;split at h
 ·rename_i h1;injection h with h;exact ⟨h1.1,by omega⟩
 ·cases h
theorem kids_lt {m:Mo} (hc:chk m=0):∀n,n<m.objs.length→∀k∈kids m n,k<m.objs.length:=by
 intro n hn k hk;obtain ⟨_,_,h3⟩:=chk_ok hc;rw [kids,kidsTo,List.mem_filterMap] at hk;obtain ⟨i,hi,hk⟩:=hk;have hi:=List.mem_range.1 hi;have h1:=kidAt_some hk;have hoo:ObOk m.types m.objs.length (ob m n):=h3.2.2.1 _ (by rw [ob,List.getD_eq_getElem?_getD,List.getElem?_eq_getElem hn];exact List.getElem_mem hn)
 have:=(hoo.2.2 i hi).2 h1.1;omega
theorem roots_lt {m:Mo} (hc:chk m=0):∀n∈roots m,n<m.objs.length:=by
 intro n hn;obtain ⟨_,_,h3⟩:=chk_ok hc;rw [roots,List.mem_filterMap] at hn;obtain ⟨s,hs,hn⟩:=hn;unfold rootOf at hn;split at hn
 ·rename_i hu;injection hn with hn
  obtain ⟨a1,a2,a3⟩:=(h3.2.2.2 s hs).2.2 hu;omega
 ·cases hn
theorem reach_ex {m:Mo} (hc:chk m=0):∃out,Rs m [] (roots m) out:=Rs.ex (N:=m.objs.length) (kids_lt hc) _ [] (roots m) rfl List.nodup_nil (by simp) (roots_lt hc)
structure Reach (m:Mo) (out:List Nat):Prop where
 rs:Rs m [] (roots m) out
 nd:out.Nodup
 lt:∀n∈out,n<m.objs.length
 len:out.length≤m.objs.length
theorem Reach.of {m:Mo} (hc:chk m=0) {out:List Nat} (h:Rs m [] (roots m) out):Reach m out:=by
 have nd:=h.nodup List.nodup_nil;have lt:=h.all (p:=fun n=>n<m.objs.length) (kids_lt hc) (by simp) (roots_lt hc)
 exact ⟨h,nd,lt,nodup_lt nd lt⟩
theorem canN_len (m:Mo) (out:List Nat):(canN m out).length=m.objs.length:=by simp [canN]
theorem canN_get {m:Mo} {out:List Nat} {n:Nat} (h:n<m.objs.length):(canN m out)[n]?=some (if n∈out then (out.idxOf n:Int) else -1):=by simp [canN,h]
theorem idxOf_snoc {l:List Nat} {x y:Nat} (hx:x∉l):(l++[x]).idxOf y=if y∈l then l.idxOf y else if y=x then l.length else l.length+1:=by
 rw [List.idxOf_append]
 by_cases h:y∈l
 ·rw [if_pos h,if_pos h]
 ·rw [if_neg h,if_neg h]
  by_cases h2:y=x
  ·subst h2;simp
  ·rw [if_neg h2]
   have:(x==y)=false:=by rw [beq_eq_false_iff_ne];exact Ne.symm h2
   simp [List.idxOf_cons,this];omega
def numsI (m:Mo) (ord:List Nat):List Int:=(List.range m.objs.length).map fun n=>if n∈ord then (ord.idxOf n:Int)+1 else 0
theorem numsI_len (m:Mo) (ord:List Nat):(numsI m ord).length=m.objs.length:=by simp [numsI]
theorem numsI_get {m:Mo} {ord:List Nat} {n:Nat} (h:n<m.objs.length):(numsI m ord)[n]?=some (if n∈ord then (ord.idxOf n:Int)+1 else 0):=by simp [numsI,h]
theorem numsI_nil (m:Mo):numsI m []=List.replicate m.objs.length 0:=by
 apply List.ext_getElem?;intro i;rcases Nat.lt_or_ge i m.objs.length with hi | hi
 ·rw [numsI_get hi,List.getElem?_replicate,if_pos hi];simp
 ·rw [List.getElem?_eq_none (by rw [numsI_len];exact hi),List.getElem?_eq_none (by simpa using hi)]
theorem numsI_step {m:Mo} {ord:List Nat} {n:Nat} (hni:n∉ord) (hlt:n<m.objs.length):(numsI m ord).set n ((ord.length:Int)+1)=numsI m (ord++[n]):=by
 apply List.ext_getElem?;intro k;rcases Nat.lt_or_ge k m.objs.length with hk | hk
 ·by_cases hkn:n=k
  ·subst hkn;rw [List.getElem?_set_self (by rw [numsI_len];exact hk),numsI_get hk,if_pos (by simp),idxOf_snoc hni,if_neg hni,if_pos rfl]
  ·rw [List.getElem?_set_ne hkn,numsI_get hk,numsI_get hk]
   by_cases hm:k∈ord
   ·rw [if_pos hm,if_pos (List.mem_append_left _ hm),idxOf_snoc hni,if_pos hm]
   ·rw [if_neg hm,if_neg (by simp [hm];exact fun e=>hkn e.symm)]
 ·rw [List.getElem?_eq_none (by rw [List.length_set,numsI_len];exact hk),List.getElem?_eq_none (by rw [numsI_len];exact hk)]
theorem Rs.kid {m:Mo} {o:Ob} {ord mid out:List Nat} {i c:Nat} (hi:i<o.fs.length) (h:Rs m ord (kidsTo m o o.fs.length) out) (h1:Rs m ord (kidsTo m o i) mid) (hc:kidAt m o i=some c):∃mid2,Rs m mid [c] mid2∧Rs m ord (kidsTo m o (i+1)) mid2:=by
 rw [kids_split (Nat.le_of_lt hi),kidsFrom_step hi,hc] at h;obtain ⟨mid',a1,a2⟩:=h.app rfl;obtain rfl:=a1.det h1;obtain ⟨mid2,b1,b2⟩:=a2.app (a:=[c]) rfl;exact ⟨mid2,b1,by rw [kidsTo_step,hc];exact a1.join b1⟩
end Go.Proofs.Yteejianjjpdimaa.L20
namespace Go.Proofs.Yteejianjjpdimaa.L20
open L02 L13 L18
theorem numO_mapO (m:Mo) (ns:List Int) (o:Ob):numO m ns o=mapO (numV ns) m.types o o.fs.length:=by
 rw [numO,mapO]
 congr 1;refine List.map_congr_left fun j hj=>?_;rw [if_pos (List.mem_range.1 hj)]
theorem idxOf_eq {out:List Nat} (hn:out.Nodup) {n j:Nat} (h:n∈out):out.idxOf n=j↔out[j]?=some n:=by
 constructor
 ·rintro rfl;rw [List.getElem?_eq_getElem (List.idxOf_lt_length_of_mem h),List.getElem_idxOf]
 ·intro hj;have h1:out[out.idxOf n]?=some n:=by rw [List.getElem?_eq_getElem (List.idxOf_lt_length_of_mem h),List.getElem_idxOf]
  exact (List.getElem?_inj (List.idxOf_lt_length_of_mem h) hn).1 (h1.trans hj.symm)
theorem numN_can {m:Mo} {out:List Nat} (hr:Reach m out) (j:Nat):numN m (canN m out) j (canN m out).length=match out[j]? with | none=>[] | some n=>[numO m (canN m out) (ob m n)]:=by
 rw [canN_len]
 have e:∀a,(out[j]?=some a→(List.range m.objs.length).filter (fun n=>decide ((canN m out).getD n (-2)=(j:Int)))=(List.range m.objs.length).filter (fun n=>decide (n=a))):=fun a ha=>by
  refine List.filter_congr fun n hn=>?_;have hn:=List.mem_range.1 hn;rw [List.getD_eq_getElem?_getD,canN_get hn,Option.getD_some]
  congr 1;rw [eq_iff_iff]
  by_cases h:n∈out
  ·rw [if_pos h]
   constructor
   ·intro h1;have h2:out.idxOf n=j:=by omega
    have:=(idxOf_eq hr.nd h).1 h2;rw [ha] at this;injection this with this;exact this.symm
   ·rintro rfl
    have:=(idxOf_eq hr.nd h).2 ha;omega
  ·rw [if_neg h]
   constructor
   ·intro h1;omega
   ·rintro rfl;exact absurd (List.mem_of_getElem? ha) h
 cases hj:out[j]? with
 | some a=>
  rw [numN,e a hj,range_filter,if_pos (hr.lt a (List.mem_of_getElem? hj))];rfl
 | none=>
  rw [numN]
  have:(List.range m.objs.length).filter (fun n=>decide ((canN m out).getD n (-2)=(j:Int)))=[]:=by
   rw [List.filter_eq_nil_iff]
   intro n hn;have hn:=List.mem_range.1 hn;rw [List.getD_eq_getElem?_getD,canN_get hn,Option.getD_some,decide_eq_true_iff]
   split
   ·rename_i h;intro h1;have h2:out.idxOf n=j:=by omega
    have:=(idxOf_eq hr.nd h).1 h2;rw [hj] at this;cases this
   ·omega
  rw [this];rfl
theorem numJ_can {m:Mo} {out:List Nat} (hr:Reach m out):∀j,numJ m (canN m out) j=(out.take j).map fun n=>numO m (canN m out) (ob m n)
 | 0=>by simp [numJ]
 | j+1=>by
  rw [numJ_succ,numJ_can hr j,numN_can hr j,List.take_add_one,List.map_append]
  cases out[j]? <;> rfl
theorem canM_eq {m:Mo} {out:List Nat} (hr:Reach m out):canM m out=⟨m.types,out.map fun n=>mapO (numV (canN m out)) m.types (ob m n) (ob m n).fs.length,m.slots.map (numS (canN m out))⟩:=by
 rw [canM,numM]
 congr 1;rw [numJ_can hr,canN_len,List.take_of_length_le hr.len]
 refine List.map_congr_left fun n _=>numO_mapO m _ _
def canB (m:Mo) (out:List Nat):Mo:=⟨m.types,out.map (ob m),m.slots⟩
theorem canB_done {m:Mo} {out:List Nat} (hr:Reach m out) (φ:UInt8→UInt64→UInt64):mapP φ (canB m out) out.length 0=⟨m.types,out.map fun n=>mapO φ m.types (ob m n) (ob m n).fs.length,m.slots⟩:=by
 have h:=mapP_done (φ:=φ) (m:=canB m out)
 have hl:(canB m out).objs.length=out.length:=by simp [canB]
 rw [hl] at h;rw [h]
 simp [canB]
theorem canB_ob {m:Mo} {out:List Nat} {i:Nat} (hi:i<out.length):ob (canB m out) i=ob m out[i]:=by
 simp [canB,ob,List.getD_eq_getElem?_getD,List.getElem?_map,List.getElem?_eq_getElem hi]
theorem Reach.closed {m:Mo} {out:List Nat} (h:Reach m out):∀n∈out,∀k∈kids m n,k∈out:=h.rs.closed (by simp)
theorem can_ref {m:Mo} {out:List Nat} (hc:chk m=0) (hr:Reach m out) {n i:Nat} (hn:n<(canB m out).objs.length) (hi:i<(ob (canB m out) n).fs.length) (h3:((ty m.types (ob (canB m out) n)).getD i 0).toNat=3):
  ((ob (canB m out) n).fs.getD i 0).toNat≤960∧(0<((ob (canB m out) n).fs.getD i 0).toNat→∃x:Nat,(numsI m out)[((ob (canB m out) n).fs.getD i 0).toNat-1]?=some ((x:Int)+1)∧x<960∧(numV (canN m out) ((ty m.types (ob (canB m out) n)).getD i 0) ((ob (canB m out) n).fs.getD i 0)).toNat=x+1):=by
 have hl:n<out.length:=by simpa [canB] using hn
 rw [canB_ob hl] at hi h3 ⊢;have hmem:out[n]∈out:=List.getElem_mem hl;have hlt:=hr.lt _ hmem;obtain ⟨_,ho,h4⟩:=chk_ok hc;have hoo:ObOk m.types m.objs.length (ob m out[n]):=h4.2.2.1 _ (by rw [ob,List.getD_eq_getElem?_getD,List.getElem?_eq_getElem hlt];exact List.getElem_mem hlt)
 have hv:=(hoo.2.2 i hi).2 h3;refine ⟨by omega,fun h0=>?_⟩
 have hk:((ob m out[n]).fs.getD i 0).toNat-1∈kids m out[n]:=by
  rw [kids,kidsTo,List.mem_filterMap]
  exact ⟨i,List.mem_range.2 hi,by rw [kidAt,if_pos ⟨h3,h0⟩]⟩
 have hin:=hr.closed _ hmem _ hk;have hil:=List.idxOf_lt_length_of_mem hin
 have:=hr.len;have hq:((ob m out[n]).fs.getD i 0).toNat-1<m.objs.length:=by omega
 refine ⟨out.idxOf (((ob m out[n]).fs.getD i 0).toNat-1),by rw [numsI_get hq,if_pos hin],by omega,?_⟩
 rw [numV,if_pos ⟨h3,h0⟩,List.getD_eq_getElem?_getD,canN_get hq,if_pos hin,Option.getD_some]
 rw [UInt64.toNat_ofNat_of_lt' (by unfold UInt64.size;omega)]
 omega
end Go.Proofs.Yteejianjjpdimaa.L20
namespace Go.Proofs.Yteejianjjpdimaa.L20
open L02 L13 L18
def exM:Mo:=⟨[[3]],[⟨0,[2]⟩,⟨0,[0]⟩],⟨1,true,0⟩ :: ⟨1,true,1⟩ :: List.replicate 14 Sl.none⟩
def exD:Mo:=⟨[[3]],[⟨0,[2]⟩,⟨0,[0]⟩],⟨1,true,0⟩ :: List.replicate 1 ⟨1,false,0⟩++List.replicate 14 Sl.none⟩
def exN:Mo:=⟨[[3]],[⟨0,[2]⟩,⟨0,[0]⟩],⟨1,false,0⟩ :: List.replicate 1 ⟨1,false,0⟩++List.replicate 14 Sl.none⟩
theorem ex_free:freeE exM 1 1=45:=by decide +kernel
theorem ex_a1:asked exM 1 1=0:=by decide +kernel
theorem ex_d1:dropM exM 1 1=exD:=by decide +kernel
theorem exD_chk:chk exD=0:=by decide +kernel
theorem ex_a2:asked exD 0 1=0:=by decide +kernel
theorem ex_d2:dropM exD 0 1=exN:=by decide +kernel
theorem exN_chk:chk exN=0:=by decide +kernel
theorem exD_rs:Rs exD [] (roots exD) [0,1]:=by
 have h1:roots exD=[0]:=by decide +kernel
 have h2:kids exD 0=[1]:=by decide +kernel
 have h3:kids exD 1=[]:=by decide +kernel
 rw [h1]
 refine .new (by simp) ?_;rw [h2]
 refine .new (by simp) ?_;rw [h3]
 exact .nil _
theorem exN_rs:Rs exN [] (roots exN) []:=by
 have h1:roots exN=[]:=by decide +kernel
 rw [h1];exact .nil _
theorem exD_len:(canM exD [0,1]).objs.length=2:=by rw [canM_eq (Reach.of exD_chk exD_rs)];rfl
theorem exN_len:(canM exN []).objs.length=0:=by rw [canM_eq (Reach.of exN_chk exN_rs)];rfl
end Go.Proofs.Yteejianjjpdimaa.L20
namespace Go.Proofs.Yteejianjjpdimaa
section
open Go.RowKit L02 L13 L18 L20
theorem float_any (x:UInt64) (b:Bool) (hb:b=decide (FloatOk x)) (w:World):Calls Try.prog 38 #[.int .u64 x.toNat] w fun e w'=>e=.returned (.bool b)∧Below w.heap.size w w':=by
 have B:=Below.refl w.heap.size w;have hxl:=toNat_lt x;have e1:=and_int (a:=(x.toNat:Int) / 4503599627370496) 11 (by omega) (by omega) 2047 (by decide) (by omega)
 rw [show ((2 ^ 11:Nat):Int)=2048 from rfl] at e1;have hwr:IntKind.u64.wrap ((x.toNat:Int)*4096)=(x.toNat:Int)*4096 % 18446744073709551616:=rfl;have HB:=hD hb;clear hb;go_in;go_wp2;all_goals
  go_ret
  refine ⟨ret_bool ?_,B⟩
  rw [HB.out]
  first
   | (rw [eq_comm,decide_eq_true_iff];unfold FloatOk;omega)
   | (rw [Bool.eq_iff_iff,decide_eq_true_iff];simp only [Bool.or_eq_true,beq_iff_eq];unfold FloatOk;omega)
theorem FloatR_any (x:UInt64) (b:Bool) (hb:b=decide (FloatOk x)) (w:World):Calls Try.prog 47 #[.int .u64 x.toNat] w fun e w'=>e=.returned (.bool b)∧Below w.heap.size w w':=by
 have B:=Below.refl w.heap.size w;have HB:=hD hb;clear hb;go_in;go_wp2;all_goals
  go_ret
  refine ⟨ret_bool ?_,B⟩
  rw [HB.out]
  rename_i hcase;first
   | (rw [beq_iff_eq] at hcase;rw [eq_comm,decide_eq_true_iff];unfold FloatOk;omega)
   | (rw [beq_eq_false_iff_ne] at hcase;rw [Bool.eq_iff_iff,decide_eq_true_iff,decide_eq_true_iff];unfold FloatOk;omega)
theorem slot_any (tv ov sv:Value) (m:Mo) (s:Sl) (b:Bool) (hb:b=decide (SlOk m.objs.length s)) (w:World) (h:Mod w tv ov sv m):
  Calls Try.prog 37 #[.agg #[tv,ov,sv],.agg #[.int .i64 s.gen,.bool s.used,.int .i64 s.at_]] w fun e w'=>e=.returned (.bool b)∧Below w.heap.size w w':=by
 have B:=Below.refl w.heap.size w;have lo:=h.o.len;have HB:=hD hb;clear hb;obtain ⟨N,hN⟩:=exq m.objs.length;rw [←hN] at lo HB;clear h hN;obtain ⟨g,u,a⟩:=s;dsimp only at *;cases u;all_goals
  go_in;go_wp2;all_goals
   go_ret
   refine ⟨ret_bool ?_,?_⟩
   ·rw [HB.out]
    exact bool_dec (by simp [SlOk];try omega)
   ·skip
    exact bdn
end
section
open Go.RowKit L02 L13 L18 L20
theorem fd_split (n:Nat) (k:UInt8) (v:UInt64):(¬FdOk n k v∧k.toNat=2∧¬FloatOk v)∨(¬FdOk n k v∧k.toNat=3∧n<v.toNat)∨(FdOk n k v∧k.toNat=2∧FloatOk v)∨(FdOk n k v∧k.toNat=3∧v.toNat≤n)∨(FdOk n k v∧k.toNat≠2∧k.toNat≠3):=by
 unfold FdOk;by_cases h2:k.toNat=2
 ·by_cases hf:FloatOk v
  ·exact .inr (.inr (.inl ⟨⟨fun _=>hf,fun h=>by omega⟩,h2,hf⟩))
  ·exact .inl ⟨fun h=>hf (h.1 h2),h2,hf⟩
 ·by_cases h3:k.toNat=3
  ·by_cases hv:v.toNat≤n
   ·exact .inr (.inr (.inr (.inl ⟨⟨fun h=>by omega,fun _=>hv⟩,h3,hv⟩)))
   ·exact .inr (.inl ⟨fun h=>hv (h.2 h3),h3,by omega⟩)
  ·exact .inr (.inr (.inr (.inr ⟨⟨fun h=>by omega,fun h=>by omega⟩,h2,h3⟩)))
theorem object_any (tv ov sv x:Value) (m:Mo) (o:Ob) (b:Bool) (hb:b=decide (ObOk m.types m.objs.length o)) (w:World) (h:Mod w tv ov sv m) (hx:Words w x o.fs):
  Calls Try.prog 36 #[.agg #[tv,ov,sv],.agg #[.int .i64 o.ty,x]] w fun e w'=>e=.returned (.bool b)∧Below w.heap.size w w':=by
 have B:=Below.refl w.heap.size w;have lt:=h.t.len;have lo:=h.o.len;have lx:=Rd.len hx Try.underlying43;have lo':=h.o.len_le;have lx':=Rd.len_le hx;obtain ⟨NT,hNT⟩:=exq m.types.length;obtain ⟨NO,hNO⟩:=exq m.objs.length;obtain ⟨n,hn⟩:=exq o.fs.length;rw [←hNT] at lt;rw [←hNO] at lo lo' hb;rw [←hn] at lx lx';have H:=hD h;have HX:=hD hx;have HNT:=hD hNT;have HN:=hD hn;clear h hx hNO;by_cases hty:0≤o.ty∧o.ty<NT
 ·obtain ⟨k,hk⟩:=Int.eq_ofNat_of_zero_le hty.1;rw [hk] at hty ⊢;have hkt:k<m.types.length:=by omega
  obtain ⟨ad,y,t,iy,m0,ht,hby⟩:=H.out.t.at_ hkt;have ht':ty m.types o=t:=by rw [ty,hk];simp [List.getD_eq_getElem?_getD,ht.out]
  have ly:=Rd.len hby.out Try.underlying41;obtain ⟨nt,hnt⟩:=exq t.length;rw [←hnt] at ly;have HNt:=hD hnt;have ha:decide ((k:Int)<0)=false:=by rw [decide_eq_false_iff_not];omega
  have hb1:decide ((NT:Int)≤(k:Int))=false:=by rw [decide_eq_false_iff_not];omega
  have hb2:decide (NT≤k)=false:=by rw [decide_eq_false_iff_not];omega
  by_cases hl:n=nt
  ·have hc:((n:Int) != (nt:Int))=false:=by rw [bne_eq_false_iff_eq];omega
   have hok:b=decide (∀i,i<n→FdOk NO (t.getD i 0) (o.fs.getD i 0)):=by
    rw [hb]
    congr 1;rw [eq_iff_iff,ObOk,ht']
    refine ⟨fun hh i hi=>hh.2.2 i (by omega),fun hh=>⟨by omega,by omega,fun i hi=>hh i (by omega)⟩⟩
   have HOK:=hD hok;have HL:=hD hl;clear hb hok ht' hkt hNT hn hnt hl;go_in;go_upto_region 1 with (fail)
   refine wpb11 (26) (#[tv,ov,sv]) (45) (#[.int .i64 (k:Int),x]) ?_;rintro wa1 ⟨g1,g2,b⟩
   replace m0:=cell_later b m0;replace B:=B.trans (b.mono B.size);clear b;replace c_g1:=g1.five;replace c_g2:=g2.five;refine wp_region_calm (by kernel_rfl) (by kernel_rfl) ?_;replace c_g1:=fun x:Fut _=>(g1.below x.h).cell;replace c_g2:=fun x:Fut _=>(g2.below x.h).cell;have c_m0:=fun x:Fut _=>cell_later x.h m0;repeat (go_big_quiet_step (fail))
   refine wpQuiet_nil ?_;intro _ hw';obtain ⟨xq,hw''⟩:=hw';subst hw'';clear c_m0;replace m0:=cell_later xq.h m0;replace g1:=g1.below xq.h;replace c_g1:=g1.five;replace g2:=g2.below xq.h;replace c_g2:=g2.five;replace B:=B.trans (xq.h.mono B.size)
   go_wp2;have HB:=hD B;have HG1:=hD g1;have HG2:=hD g2;clear B g1 g2 m0 c_g1 c_g2
   go_loopg [39] n (fun g i wr=>∃j:Nat,j≤n∧g=n-j∧i=.int .i64 j∧Hid ((∀i,i<j→FdOk NO (t.getD i 0) (o.fs.getD i 0))∧Bx wr w.heap.size 26 #[tv,ov,sv]∧Bx wr (w.heap.size+1) 45 #[.int .i64 (k:Int),x]∧Below w.heap.size w wr))
   case atStart=>exact ⟨0,by omega,by omega,rfl,hD ⟨fun i hi=>by omega,HG1.out,HG2.out,HB.out⟩⟩
   case round=>
    obtain ⟨j,hj,rfl,rfl,hh⟩:=hrel;by_cases hlt:j<n
    ·have g1:=hh.out.2.1;have g2:=hh.out.2.2.1;have c_g1:=g1.cell;have c_g2:=g2.cell;obtain ⟨bd,kk,ib,m1,hkk⟩:=(hby.out.below hh.out.2.2.2).at_ (P:=Try.prog) Try.underlying41 one_u8 (k:=j) (by have:=HNt.out;have:=HL.out;omega)
     obtain ⟨cd,v,ic,m2,hv⟩:=(HX.out.below hh.out.2.2.2).at_ (P:=Try.prog) Try.underlying43 one_u64 (k:=j) (by have:=HN.out;omega)
     have ek:t.getD j 0=kk:=by simp [List.getD_eq_getElem?_getD,hkk.out]
     have ev:o.fs.getD j 0=v:=by simp [List.getD_eq_getElem?_getD,hv.out]
     have EK:=hD ek;have EV:=hD ev;have hjt:j<nt:=by have:=HL.out;omega
     clear hkk hv ek ev;have hwn:IntKind.u64.wrap ((NO:Nat):Int)=(NO:Int):=by show (NO:Int) % 18446744073709551616=_;omega
     have FT:=hD (float_any v)
     have hcase:=fd_split NO kk v;have hno:∀z,FdOk NO kk v=z→(z→False)→b=false:=fun z hz hf=>by
      rw [HOK.out,decide_eq_false_iff_not]
      intro hall
      have:=hall j hlt;rw [EK.out,EV.out,hz] at this;exact hf this
     have HNO:=hD hno;clear hno;rcases hcase with ⟨z,e2,zf⟩ | ⟨z,e3,zf⟩ | ⟨z,e2,zf⟩ | ⟨z,e3,zf⟩ | ⟨z,e2,e3⟩
     ·have hbf:b=false:=HNO.out _ rfl z;have k2:((kk.toNat:Int)==2)=true:=by rw [beq_iff_eq];omega
      have FT1:=hD (FT.out false (decide_eq_false zf).symm)
      clear z e2 zf FT;subst hbf;go_wp2_with fail;refine (FT1.out _).mono ?_;rintro e w2 ⟨rfl,b2⟩
      have B:=hh.out.2.2.2.trans (b2.mono hh.out.2.2.2.size)
      go_wp2
      go_ret
      exact ⟨rfl,B⟩
     ·have hbf:b=false:=HNO.out _ rfl z;have k2:((kk.toNat:Int)==2)=false:=by rw [beq_eq_false_iff_ne];omega
      have k3:((kk.toNat:Int)==3)=true:=by rw [beq_iff_eq];omega
      clear z e3 FT;subst hbf;go_wp2
      go_ret
      exact ⟨rfl,hh.out.2.2.2⟩
     ·have k2:((kk.toNat:Int)==2)=true:=by rw [beq_iff_eq];omega
      have k3:((kk.toNat:Int)==3)=false:=by rw [beq_eq_false_iff_ne];omega
      have FT1:=hD (FT.out true (decide_eq_true zf).symm)
      have HZ:=hD z;clear z e2 zf FT;go_wp2_with fail;refine (FT1.out _).mono ?_;rintro e w2 ⟨rfl,b2⟩
      have HH:=hD (And.intro (hh.out.2.1.below b2) (And.intro (hh.out.2.2.1.below b2) (hh.out.2.2.2.trans (b2.mono hh.out.2.2.2.size))))
      clear b2 m1 m2 g1 g2 c_g1 c_g2;go_wp2
      go_roundg (n-(j+1))
      case measure=>omega
      case rel=>
       refine ⟨j+1,by omega,rfl,by go_num,hD ⟨fun i hi=>?_,HH.out⟩⟩
       by_cases hij:i<j
       ·exact hh.out.1 i hij
       ·obtain rfl:i=j:=by omega
        rw [EK.out,EV.out];exact HZ.out
     ·have k2:((kk.toNat:Int)==2)=false:=by rw [beq_eq_false_iff_ne];omega
      have k3:((kk.toNat:Int)==3)=true:=by rw [beq_iff_eq];omega
      have HZ:=hD z;have zf2:¬NO<v.toNat:=by omega
      clear z e3 FT zf;go_wp2
      go_roundg (n-(j+1))
      case measure=>omega
      case rel=>
       refine ⟨j+1,by omega,rfl,by go_num,hD ⟨fun i hi=>?_,hh.out.2⟩⟩
       by_cases hij:i<j
       ·exact hh.out.1 i hij
       ·obtain rfl:i=j:=by omega
        rw [EK.out,EV.out];exact HZ.out
     ·have k2:((kk.toNat:Int)==2)=false:=by rw [beq_eq_false_iff_ne];omega
      have k3:((kk.toNat:Int)==3)=false:=by rw [beq_eq_false_iff_ne];omega
      have HZ:=hD z;clear z e2 e3 FT;go_wp2
      go_roundg (n-(j+1))
      case measure=>omega
      case rel=>
       refine ⟨j+1,by omega,rfl,by go_num,hD ⟨fun i hi=>?_,hh.out.2⟩⟩
       by_cases hij:i<j
       ·exact hh.out.1 i hij
       ·obtain rfl:i=j:=by omega
        rw [EK.out,EV.out];exact HZ.out
    ·obtain rfl:j=n:=by omega
     have hbt:b=true:=by rw [HOK.out,decide_eq_true_iff];exact fun i hi=>hh.out.1 i hi
     have hntn:¬j<nt:=by have:=HL.out;omega
     subst hbt;go_wp2
     go_ret
     exact ⟨rfl,hh.out.2.2.2⟩
  ·have hc:((n:Int) != (nt:Int))=true:=by rw [bne_iff_ne];omega
   have hbf:b=false:=by
    rw [hb,decide_eq_false_iff_not,ObOk,ht']
    intro hh;omega
   subst hbf;clear hb ht' hkt hNT hn hnt hl;go_in;go_upto_region 1 with (fail)
   refine wpb11 (26) (#[tv,ov,sv]) (45) (#[.int .i64 (k:Int),x]) ?_;rintro wa1 ⟨g1,g2,b⟩
   replace m0:=cell_later b m0;replace B:=B.trans (b.mono B.size);clear b;replace c_g1:=g1.five;replace c_g2:=g2.five;refine wp_region_calm (by kernel_rfl) (by kernel_rfl) ?_;replace c_g1:=fun x:Fut _=>(g1.below x.h).cell;replace c_g2:=fun x:Fut _=>(g2.below x.h).cell;have c_m0:=fun x:Fut _=>cell_later x.h m0;repeat (go_big_quiet_step (fail))
   refine wpQuiet_nil ?_;intro _ hw';obtain ⟨xq,hw''⟩:=hw';subst hw'';clear c_m0;replace m0:=cell_later xq.h m0;replace g1:=g1.below xq.h;replace c_g1:=g1.five;replace g2:=g2.below xq.h;replace c_g2:=g2.five;replace B:=B.trans (xq.h.mono B.size)
   go_wp2
   go_ret
   exact ⟨rfl,B⟩
 ·have hbf:b=false:=by
   rw [hb,decide_eq_false_iff_not,ObOk]
   intro hh;omega
  subst hbf;obtain ⟨ty,fs⟩:=o;dsimp only at *;by_cases hneg:ty<0
  ·have ha:decide (ty<0)=true:=decide_eq_true hneg;clear hb hNT hn hty hneg;go_in;go_upto_region 1 with (fail)
   refine wpb11 (26) (#[tv,ov,sv]) (45) (#[.int .i64 ty,x]) ?_;rintro wa1 ⟨g1,g2,b⟩
   replace B:=B.trans (b.mono B.size);clear b;replace c_g1:=g1.five;replace c_g2:=g2.five;refine wp_region_calm (by kernel_rfl) (by kernel_rfl) ?_;replace c_g1:=fun x:Fut _=>(g1.below x.h).cell;replace c_g2:=fun x:Fut _=>(g2.below x.h).cell;repeat (go_big_quiet_step (fail))
   refine wpQuiet_nil ?_;intro _ hw';obtain ⟨xq,hw''⟩:=hw';subst hw'';replace g1:=g1.below xq.h;replace c_g1:=g1.five;replace g2:=g2.below xq.h;replace c_g2:=g2.five;replace B:=B.trans (xq.h.mono B.size)
   go_wp2
   go_ret
   exact ⟨rfl,B⟩
  ·have ha:decide (ty<0)=false:=decide_eq_false hneg;have hb1:decide ((NT:Int)≤ty)=true:=by rw [decide_eq_true_iff];omega
   clear hb hNT hn hty hneg;go_in;go_upto_region 1 with (fail)
   refine wpb11 (26) (#[tv,ov,sv]) (45) (#[.int .i64 ty,x]) ?_;rintro wa1 ⟨g1,g2,b⟩
   replace B:=B.trans (b.mono B.size);clear b;replace c_g1:=g1.five;replace c_g2:=g2.five;refine wp_region_calm (by kernel_rfl) (by kernel_rfl) ?_;replace c_g1:=fun x:Fut _=>(g1.below x.h).cell;replace c_g2:=fun x:Fut _=>(g2.below x.h).cell;repeat (go_big_quiet_step (fail))
   refine wpQuiet_nil ?_;intro _ hw';obtain ⟨xq,hw''⟩:=hw';subst hw'';replace g1:=g1.below xq.h;replace c_g1:=g1.five;replace g2:=g2.below xq.h;replace c_g2:=g2.five;replace B:=B.trans (xq.h.mono B.size)
   go_wp2
   go_ret
   exact ⟨rfl,B⟩
end
section
open Go.RowKit L02 L13 L18 L20
theorem Check20_any (tv ov sv:Value) (m:Mo) (r:Int) (hr:r=chk m) (w:World) (h:Mod w tv ov sv m):
  Calls Try.prog 16 #[.agg #[tv,ov,sv]] w fun e w'=>e=.returned (.int .i64 r)∧Below w.heap.size w w':=by
 have B:=Below.refl w.heap.size w;have lt:=h.t.len;have lo:=h.o.len;have ls:=h.s.len;have lt':=h.t.len_le;have lo':=h.o.len_le;have ls':=h.s.len_le;have hbig:8<m.types.length∨960<m.objs.length→r=4:=fun hm=>by rw [hr,chk_many hm]
 have hbad:¬(8<m.types.length∨960<m.objs.length)→¬MoOk m→r=8:=fun h1 h2=>by rw [hr,chk_bad h1 h2]
 have hgood:¬(8<m.types.length∨960<m.objs.length)→MoOk m→r=0:=fun h1 h2=>by rw [hr,chk_zero h1 h2]
 obtain ⟨NT,hNT⟩:=exq m.types.length;obtain ⟨NO,hNO⟩:=exq m.objs.length;obtain ⟨NS,hNS⟩:=exq m.slots.length;rw [←hNT] at lt lt' hbig hbad hgood;rw [←hNO] at lo lo' hbig hbad hgood;rw [←hNS] at ls ls';have H:=hD h;have HNT:=hD hNT;have HNO:=hD hNO;have HNS:=hD hNS;clear h hr hNT hNO hNS;by_cases h1:8<NT
 ·have hr4:=hbig (.inl h1)
  clear hbig hbad hgood;subst hr4;go_in;go_wp2
  go_ret
  exact ⟨rfl,B.alloc B.size _⟩
 by_cases h2:960<NO
 ·have hr4:=hbig (.inr h2)
  clear hbig hbad hgood;subst hr4;go_in;go_wp2
  go_ret
  exact ⟨rfl,B.alloc B.size _⟩
 have hnm:¬(8<NT∨960<NO):=by omega
 have HBAD:=hD (hbad hnm);have HGOOD:=hD (hgood hnm)
 clear hbig hbad hgood hnm;by_cases h3:NS=16
 ·have h3':((NS:Int) != 16)=false:=by rw [bne_eq_false_iff_eq];omega
  have HS3:=hD h3;clear h3;go_in;go_upto_region 1 with (fail)
  refine wpb1 (26) (#[tv,ov,sv]) ?_;rintro wa1 ⟨g1,b⟩
  replace B:=B.trans (b.mono B.size);clear b;replace c_g1:=g1.five;have HB:=hD B;clear B;go_wp2;have HG1:=hD g1;clear g1 c_g1
  go_loopg [26] NT (fun g i wr=>∃j:Nat,j≤NT∧g=NT-j∧i=.int .i64 j∧Hid ((∀(i:Nat) t,i<j→m.types[i]?=some t→kErr t=0)∧Bx wr w.heap.size 26 #[tv,ov,sv]∧Below w.heap.size w wr))
  case atStart=>exact ⟨0,by omega,by omega,rfl,hD ⟨fun i t hi=>by omega,HG1.out,HB.out⟩⟩
  case round=>
   clear HG1 HB;obtain ⟨j,hj,rfl,rfl,hh⟩:=hrel;by_cases hlt:j<NT
   ·obtain ⟨ad,y,t,iy,m0,ht,hby⟩:=(H.out.t.below hh.out.2.2).at_ (k:=j) (by have:=HNT.out;omega)
    by_cases hk:kErr t=0
    ·have KT:=hD (KCheck_any y t 0 hk.symm)
     have HK:=hD hk;clear hk;go_wp2_with fail;refine (KT.out _ hby.out).mono ?_;rintro e w2 ⟨rfl,rfl⟩
     go_wp2
     go_roundg (NT-(j+1))
     case measure=>omega
     case rel=>
      refine ⟨j+1,by omega,rfl,by go_num,hD ⟨fun i u hi hu=>?_,hh.out.2⟩⟩
      by_cases hij:i<j
      ·exact hh.out.1 i u hij hu
      ·obtain rfl:i=j:=by omega
       have:=ht.out;rw [hu] at this;injection this with this;subst this;exact HK.out
    ·have hr8:=HBAD.out (no_type ht.out hk)
     subst hr8;obtain ⟨z,hz⟩:=exq (kErr t)
     have KT:=hD (KCheck_any y t z hz)
     have hne:(z != 0)=true:=by rw [bne_iff_ne,hz];exact hk
     clear hk hz;go_wp2_with fail;refine (KT.out _ hby.out).mono ?_;rintro e w2 ⟨rfl,rfl⟩
     go_wp2
     go_ret
     exact ⟨rfl,hh.out.2.2⟩
   ·obtain rfl:j=NT:=by omega
    have HT:=hD (hh.out.1);have g1:=hh.out.2.1;have HB:=hD hh.out.2.2;clear hh;have c_g1:=g1.cell;go_wp2;have HG1:=hD g1;clear g1 c_g1
    go_loopg [37] NO (fun g i wr=>∃k:Nat,k≤NO∧g=NO-k∧i=.int .i64 k∧Hid ((∀(i:Nat) o,i<k→m.objs[i]?=some o→ObOk m.types m.objs.length o)∧Bx wr w.heap.size 26 #[tv,ov,sv]∧Below w.heap.size w wr))
    case atStart=>exact ⟨0,by omega,by omega,rfl,hD ⟨fun i t hi=>by omega,HG1.out,HB.out⟩⟩
    case round=>
     clear HG1 HB;obtain ⟨k,hk,rfl,rfl,hh⟩:=hrel;by_cases hltk:k<NO
     ·obtain ⟨ob,oq,x,o,ix,m0,m1,ho,hx,hob⟩:=(H.out.o.below hh.out.2.2).at_ (k:=k) (by have:=HNO.out;omega)
      obtain ⟨z,hz⟩:=exq (decide (ObOk m.types m.objs.length o))
      have OT:=hD (object_any tv ov sv x m o z hz)
      have HZ:=hD hz;clear hz;have g1:=hh.out.2.1;have B:=hh.out.2.2;have HA:=hD hh.out.1;have hxx:=hx.out;obtain ⟨xA,xn,xc,rfl⟩:∃A n c,x=.slice A n c:=by obtain ⟨A,c,e,_⟩:=hx.out;exact ⟨A,_,c,e⟩
      clear hx;have H1:=hD (H.out.below B)
      have c_g1:=g1.cell;go_upto_region 14 with (fail)
      refine wpb1 (45) (#[.int .i64 o.ty,.slice xA xn xc]) ?_;rintro wa1 ⟨g2,b⟩
      replace g1:=g1.below b;replace c_g1:=g1.five;replace hxx:=hxx.below b;replace B:=B.trans (b.mono B.size);clear b;replace c_g2:=g2.five;go_wp2_with fail;refine (OT.out _ (H.out.below B) hxx).mono ?_;rintro e w2 ⟨rfl,b2⟩
      replace B:=B.trans (b2.mono B.size)
      cases z
      ·have hbad:=HBAD.out (no_obj ho.out (by have:=HZ.out;rw [eq_comm,decide_eq_false_iff_not] at this;exact this))
       subst hbad;clear b2;go_wp2
       go_ret
       exact ⟨rfl,B⟩
      ·have HH:=hD (And.intro (g1.below b2) B)
       clear b2 g1 g2 c_g1 c_g2 B m0 m1;go_wp2
       go_roundg (NO-(k+1))
       case measure=>omega
       case rel=>
        refine ⟨k+1,by omega,rfl,by go_num,hD ⟨fun i u hi hu=>?_,HH.out⟩⟩
        by_cases hik:i<k
        ·exact HA.out i u hik hu
        ·obtain rfl:i=k:=by omega
         have:=ho.out;rw [hu] at this;injection this with this;subst this
         have:=HZ.out;rw [eq_comm,decide_eq_true_iff] at this;exact this
     ·obtain rfl:k=NO:=by omega
      have HO:=hD (hh.out.1);have g1:=hh.out.2.1;have HB:=hD hh.out.2.2;clear hh;have c_g1:=g1.cell;go_wp2;have HG1:=hD g1;clear g1 c_g1
      go_loopg [49] 16 (fun g i wr=>∃q:Nat,q≤16∧g=16-q∧i=.int .i64 q∧Hid ((∀(i:Nat) o,i<q→m.slots[i]?=some o→SlOk m.objs.length o)∧Bx wr w.heap.size 26 #[tv,ov,sv]∧Below w.heap.size w wr))
      case atStart=>exact ⟨0,by omega,by omega,rfl,hD ⟨fun i t hi=>by omega,HG1.out,HB.out⟩⟩
      case round=>
       clear HG1 HB;obtain ⟨q,hq,rfl,rfl,hh⟩:=hrel;by_cases hltq:q<16
       ·have hqn:q<NS:=by have:=HS3.out;omega
        obtain ⟨sb,sq,s,ix,m0,m1,m2,hs⟩:=(H.out.s.below hh.out.2.2).at_ (P:=Try.prog) Try.underlying24 size_slot (k:=q) (by have:=HNS.out;omega)
        obtain ⟨z,hz⟩:=exq (decide (SlOk m.objs.length s))
        have ST:=hD (slot_any tv ov sv m s z hz)
        have HZ:=hD hz;clear hz;have g1:=hh.out.2.1;have B:=hh.out.2.2;have HA:=hD hh.out.1;have c_g1:=g1.cell;go_upto_region 20 with (fail)
        refine wpb1 (48) (#[.int .i64 s.gen,.bool s.used,.int .i64 s.at_]) ?_;rintro wa1 ⟨g2,b⟩
        replace g1:=g1.below b;replace c_g1:=g1.five;replace B:=B.trans (b.mono B.size);clear b;replace c_g2:=g2.five;go_wp2_with fail;refine (ST.out _ (H.out.below B)).mono ?_;rintro e w2 ⟨rfl,b2⟩
        replace B:=B.trans (b2.mono B.size)
        cases z
        ·have hbad:=HBAD.out (no_slot hs.out (by have:=HZ.out;rw [eq_comm,decide_eq_false_iff_not] at this;exact this))
         subst hbad;clear b2;go_wp2
         go_ret
         exact ⟨rfl,B⟩
        ·have HH:=hD (And.intro (g1.below b2) B)
         clear b2 g1 g2 c_g1 c_g2 B m0 m1 m2;go_wp2
         go_roundg (16-(q+1))
         case measure=>omega
         case rel=>
          refine ⟨q+1,by omega,rfl,by go_num,hD ⟨fun i u hi hu=>?_,HH.out⟩⟩
          by_cases hik:i<q
          ·exact HA.out i u hik hu
          ·obtain rfl:i=q:=by omega
           have:=hs.out;rw [hu] at this;injection this with this;subst this
           have:=HZ.out;rw [eq_comm,decide_eq_true_iff] at this;exact this
       ·obtain rfl:q=16:=by omega
        have hmo:MoOk m:=by
         refine ⟨by rw [←HNS.out];exact HS3.out,fun t ht=>?_,fun o ho=>?_,fun s hs=>?_⟩
         ·obtain ⟨i,hi,hit⟩:=List.getElem_of_mem ht;exact HT.out i t (by rw [HNT.out];exact hi) (by rw [List.getElem?_eq_getElem hi,hit])
         ·obtain ⟨i,hi,hit⟩:=List.getElem_of_mem ho;exact HO.out i o (by rw [HNO.out];exact hi) (by rw [List.getElem?_eq_getElem hi,hit])
         ·obtain ⟨i,hi,hit⟩:=List.getElem_of_mem hs;exact hh.out.1 i s (by have:=HNS.out;have:=HS3.out;omega) (by rw [List.getElem?_eq_getElem hi,hit])
        have hr0:=HGOOD.out hmo;subst hr0;have hns:¬(16:Int)<NS:=by have:=HS3.out;omega
        have hns':decide ((16:Int)<NS)=false:=decide_eq_false hns;obtain rfl:=HS3.out;go_wp2
        go_ret
        exact ⟨rfl,hh.out.2.2⟩
 ·have hr8:=HBAD.out (fun hm=>h3 (by rw [HNS.out];exact hm.1))
  subst hr8;have h3':((NS:Int) != 16)=true:=by rw [bne_iff_ne];omega
  clear h3;go_in;go_wp2
  go_ret
  exact ⟨rfl,B.alloc B.size _⟩
end
end Go.Proofs.Yteejianjjpdimaa
