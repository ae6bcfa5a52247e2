/- Contracts of the functions that the laws 'C' reach, part 8. No condition. -/
import Derived.Test.YteejianjjpdimaaMCg
set_option linter.unusedVariables false
set_option linter.unusedSimpArgs false
set_option maxRecDepth 100000
set_option maxHeartbeats 8000000
namespace Go.Proofs.Yteejianjjpdimaa
section
open Go.RowKit L02 L13 L18 L20
theorem Rd.ixU {w:World} {sz n:Nat} {v:Value} {xs:List Value} {t e:TypeId} (h:Rd w sz v n xs) (ht:Try.prog.underlying t=some (.slice e)) (hi:(Try.prog.info? e).map (·.size)=some sz) {k:Nat} (hk:k<n) (W:World):
  (Instr.indexAt t v (.int .u64 (k:Int))).run Try.prog W=.ok (.pointer (some (cellAt v (k*sz)))) W:=by
 obtain ⟨i,hi',rfl⟩:=Option.map_eq_some_iff.1 hi;clear hi;obtain ⟨A,c,rfl,h1,_,h2,h3,h4⟩:=h;cases A with
 | none=>have:=h3 rfl;omega
 | some ad=>
  obtain ⟨b,o,s⟩:=ad
  have:=(h4 (by omega) _ rfl).1;simp at this;subst this;simp [Instr.indexAt,run_underlying ht,asIntOf,hk,sizeOf,typeInfo,hi',cellAt,Addr.add]
theorem Ints.atU {w:World} {v:Value} {l:List Int} (h:Ints w v l) {k:Nat} (hk:k<l.length):
  ∃ad x,(∀W,(Instr.indexAt 30 v (.int .u64 (k:Int))).run Try.prog W=.ok (.pointer (some ad)) W)∧w.cell? ad=some (.int .i64 x)∧Hid (l[k]?=some x):=
 ⟨_,l[k],fun W=>Rd.ixU h Try.underlying30 one_int hk W,by rw [Nat.mul_one];exact Rd.cell h (by simp [hk];rfl),by unfold Hid;simp [hk]⟩
theorem Numbered_any (tv ov sv nv:Value) (m:Mo) (ns:List Int) (hc:chk m=0) (hns:NumOk m ns) (w:World) (h:Mod w tv ov sv m) (hn:Ints w nv ns):
  Calls Try.prog 8 #[.agg #[tv,ov,sv],nv] w fun e w'=>∃t' o' s',e=.returned (.agg #[t',o',s'])∧OwnM w' w.heap.size 48 t' o' s' (numM m ns)∧Below w.heap.size w w':=by
 have B:=Below.refl w.heap.size w;have ln:=Rd.len hn Try.underlying30;obtain ⟨k1,k2,k3⟩:=chk_ok hc;obtain ⟨NO,hNO⟩:=exq ns.length;rw [←hNO] at ln;have hNO2:NO≤960:=by rw [hNO,hns.1];exact k2
 have hb1:∀j,j≤NO→(numJ m ns j).length≤921600:=fun j hj=>Nat.le_trans (numJ_len m ns j) (by rw [←hNO];exact Nat.le_trans (Nat.mul_le_mul hj (Nat.le_refl _)) (Nat.le_trans (Nat.mul_le_mul hNO2 hNO2) (by decide)))
 have TT:=hD (TwinM_any tv ov sv m (small_chk hc))
 have H:=hD h;have HN:=hD hn;have HNO:=hD hNO;have HK:=hD k3;have HSM:=hD (small_chk hc);have HNS:=hD hns;have HB1:=hD hb1;clear h hn hNO k1 k2 k3 hc hns hb1;go_in;go_upto_region 1 with (fail)
 refine wpb11 (26) (#[tv,ov,sv]) (26) (#[.slice none 0 0,.slice none 0 0,.slice none 0 0]) ?_;rintro wa1 ⟨g1,g3,b⟩
 replace B:=B.trans (b.mono B.size);clear b;obtain ⟨c_g1,f_g1,a_g1,d_g1,e_g1⟩:=g1.five;obtain ⟨c_g3,f_g3,a_g3,d_g3,e_g3⟩:=g3.five;have hz1:=B.size;have hp3:=g3.lt;go_wp2_with fail;refine (TT.out _ (H.out.below B)).mono ?_;rintro e wa2 ⟨t',o',s',rfl,om,b⟩
 try clear c_g1 f_g1 a_g1 d_g1 e_g1
 replace g1:=g1.below b;obtain ⟨c_g1,f_g1,a_g1,d_g1,e_g1⟩:=g1.five;try clear c_g3 f_g3 a_g3 d_g3 e_g3
 replace g3:=g3.below b;obtain ⟨c_g3,f_g3,a_g3,d_g3,e_g3⟩:=g3.five;replace B:=B.trans (b.mono B.size);clear b;obtain ⟨⟨tA,tn,tc,rfl⟩,⟨oA,on,oc,rfl⟩,⟨sA,sn,sc,rfl⟩⟩:=om.forms;obtain ⟨gS,sc',hS1⟩:∃g c,Value.slice sA sn sc=.slice (some ⟨g,0,none⟩) 16 c:=by obtain ⟨g,n,c,e,e2⟩:=om.s.form (by have:=HK.out.1;omega);rw [e2,HK.out.1] at e;exact ⟨g,c,e⟩
 cases hS1;have hp3':=g3.lt;go_upto_region 2 with (fail)
 refine wpb1 (26) (#[.slice tA tn tc,.slice oA on oc,.slice (some ⟨gS,0,none⟩) 16 sc]) ?_;rintro wa3 ⟨g4,b⟩
 try clear c_g1 f_g1 a_g1 d_g1 e_g1
 replace g1:=g1.below b;obtain ⟨c_g1,f_g1,a_g1,d_g1,e_g1⟩:=g1.five;try clear c_g3 f_g3 a_g3 d_g3 e_g3
 replace g3:=g3.below b;obtain ⟨c_g3,f_g3,a_g3,d_g3,e_g3⟩:=g3.five;replace om:=om.below b;replace B:=B.trans (b.mono B.size);clear b;obtain ⟨c_g4,f_g4,a_g4,d_g4,e_g4⟩:=g4.five
 generalize hpp:wa2.heap.size=p5 at*
 have hp5:w.heap.size+1+1≤p5:=by omega
 go_upto_region 3 with (fail)
 refine wp_gen (fun Wv=>OwnT Wv w.heap.size (.slice tA tn tc) m.types∧OwnO Wv w.heap.size (.slice none 0 0) (numJ m ns 0)∧OwnS Wv w.heap.size 48 (.slice (some ⟨gS,0,none⟩) 16 sc) m.slots∧Bx Wv w.heap.size 26 #[tv,ov,sv]∧Bx Wv (w.heap.size+1) 26 #[.slice none 0 0,.slice none 0 0,.slice none 0 0]∧Bx Wv p5 26 #[.slice tA tn tc,.slice none 0 0,.slice (some ⟨gS,0,none⟩) 16 sc]∧Below w.heap.size w Wv) ?_ ?_
 ·have om2:=(om.mono hz1).set (p:=p5) (i:=1) (u:=.slice none 0 0) g4;refine ⟨om2.t,OwnO.nil _ _,om2.s,g1.far (p:=⟨p5,1,none⟩) (by show _≠p5;omega) _,g3.far (p:=⟨p5,1,none⟩) (by show _≠p5;omega) _,?_,B.setCell (p:=⟨p5,1,none⟩) (by show _≤p5;omega) _⟩
  have:=g4.set (i:=1) (.slice none 0 0)
  simpa using this
 clear om g1 g3 g4 B c_g1 f_g1 a_g1 d_g1 e_g1 c_g3 f_g3 a_g3 d_g3 e_g3 c_g4 f_g4 a_g4 d_g4 e_g4 hpp hp3 hp3' hz1;intro wz hz;have HZ:=hD hz;clear hz;go_wp2
 go_loopg [6] NO (fun g i wr=>∃j:Nat,j≤NO∧g=NO-j∧i=.int .i64 j∧Hid (∃ov2,OwnT wr w.heap.size (.slice tA tn tc) m.types∧OwnO wr w.heap.size ov2 (numJ m ns j)∧OwnS wr w.heap.size 48 (.slice (some ⟨gS,0,none⟩) 16 sc) m.slots∧Bx wr w.heap.size 26 #[tv,ov,sv]∧Bx wr (w.heap.size+1) 26 #[.slice none 0 0,.slice none 0 0,.slice none 0 0]∧Bx wr p5 26 #[.slice tA tn tc,ov2,.slice (some ⟨gS,0,none⟩) 16 sc]∧Below w.heap.size w wr))
 case atStart=>exact ⟨0,by omega,by omega,rfl,hD ⟨_,HZ.out⟩⟩
 case round=>
  clear HZ;obtain ⟨j,hj,rfl,rfl,hh⟩:=hrel;by_cases hlt:j<NO
  ·have HJ:=hh;clear hh;go_wp2
   go_loopg [7] NO (fun g i wr=>∃k:Nat,k≤NO∧g=NO-k∧i=.int .i64 k∧Hid (∃ov2,OwnT wr w.heap.size (.slice tA tn tc) m.types∧OwnO wr w.heap.size ov2 (numJ m ns j++numN m ns j k)∧OwnS wr w.heap.size 48 (.slice (some ⟨gS,0,none⟩) 16 sc) m.slots∧Bx wr w.heap.size 26 #[tv,ov,sv]∧Bx wr (w.heap.size+1) 26 #[.slice none 0 0,.slice none 0 0,.slice none 0 0]∧Bx wr p5 26 #[.slice tA tn tc,ov2,.slice (some ⟨gS,0,none⟩) 16 sc]∧Below w.heap.size w wr))
   case atStart=>exact ⟨0,by omega,by omega,rfl,hD (by simpa [numN] using HJ.out)⟩
   case round=>
    clear HJ;obtain ⟨k,hk,rfl,rfl,hh⟩:=hrel;by_cases hltk:k<NO
    ·obtain ⟨ov2,oT,oO,oS,g1,g3,g5,B⟩:=hh.out;obtain ⟨na,x,ia,m0,hx⟩:=(HN.out.below B).at_ (P:=Try.prog) Try.underlying30 one_int (k:=k) (by have:=HNO.out;omega)
     by_cases hxj:x=(j:Int)
     ·have e1:(x != (j:Int))=false:=by rw [bne_eq_false_iff_eq];exact hxj
      subst hxj;obtain ⟨o,ho⟩:∃o,m.objs[k]?=some o:=⟨_,List.getElem?_eq_getElem (by have:=HNO.out;have:=HNS.out.1;omega)⟩
      have hoo:=HK.out.2.2.1 o (List.mem_of_getElem? ho)
      obtain ⟨q,hq⟩:=Int.eq_ofNat_of_zero_le hoo.1.1;have hqt:q<m.types.length:=by have:=hoo.1.2;omega
      obtain ⟨t,ht⟩:∃t,m.types[q]?=some t:=⟨_,List.getElem?_eq_getElem hqt⟩
      have htt:ty m.types o=t:=by rw [ty,hq];simp [List.getD_eq_getElem?_getD,ht]
      obtain ⟨nf,hnf⟩:=exq o.fs.length;have hlt2:nf=t.length:=by rw [hnf,hoo.2.1,htt]
      have hnf20:nf≤20:=by rw [hnf];exact HSM.out.2.2.2.2 o (List.mem_of_getElem? ho)
      have HFD:=hD hoo.2.2;have HE:=hD (show ob m k=o from ob_at ho)
      have HNF:=hD hnf;have HO:=hD ho;have HT:=hD ht;have HQ:=hD hq;have HL:=hD hlt2;have HTT:=hD htt;have HQT:=hD hqt;have HX:=hx;clear hoo hqt ht htt hnf hlt2 ho;obtain ⟨bo,oq,x0,o2,ix,m1,m2,ho2,hx0,hob⟩:=(H.out.o.below B).at_ (k:=k) (by have:=HNO.out;have:=HNS.out.1;omega)
      obtain rfl:o2=o:=by have:=ho2.out;rw [HO.out] at this;injection this with e;exact e.symm
      rw [hq] at m1;clear hx0 hx ho2 hq hh;obtain ⟨wn,hwn⟩:=exq wr;subst hwn;have hB0:=B.size;have c_g1:=g1.cell;have HG:=hD (And.intro oT (And.intro oO (And.intro oS (And.intro g1 (And.intro g3 (And.intro g5 B))))))
      clear oT oO oS g3 g5;go_upto_region 11 with (fail)
      refine wp_gen (fun Wv=>Bx Wv wn.heap.size 45 #[.int .i64 q,.slice none 0 0]∧Below wn.heap.size wn Wv) ⟨Bx.at_ (by simp),(Below.refl _ wn).alloc (by simp) _⟩ ?_;rintro wa ⟨g8,b⟩
      have G8:=hD (And.intro g8 b)
      clear g8 b g1 c_g1 m0 m1 m2 B ix hob;go_wp2
      go_loopg [9] nf (fun g i wr2=>∃p:Nat,p≤nf∧g=nf-p∧i=.int .i64 p∧Hid (∃y,OwnW wr2 wn.heap.size 46 y ((numO m ns o2).fs.take p)∧Bx wr2 wn.heap.size 45 #[.int .i64 q,y]∧Below wn.heap.size wn wr2))
      case atStart=>exact ⟨0,by omega,by omega,rfl,hD ⟨_,OwnW.nil _ _ _,G8.out.1,G8.out.2⟩⟩
      case round=>
       clear G8;obtain ⟨p,hp,rfl,rfl,hh2⟩:=hrel;obtain ⟨y,oy,g8,b⟩:=hh2.out;obtain ⟨yA,yn,yc,rfl⟩:∃A n c,y=.slice A n c:=by obtain ⟨A,c,e⟩:=own_form' oy;exact ⟨A,_,c,e⟩
       have B2:=HG.out.2.2.2.2.2.2.trans (b.mono hB0)
       have c_g1:=(HG.out.2.2.2.1.below b).cell;have c_g8:=g8.cell;obtain ⟨bo,oq,x0,o3,ix,m1,m2,ho3,hx0,hob⟩:=(H.out.o.below B2).at_ (k:=k) (by have:=HNO.out;have:=HNS.out.1;omega)
       obtain rfl:o3=o2:=by have:=ho3.out;rw [HO.out] at this;injection this with e;exact e.symm
       have hxx:=hx0.out;obtain ⟨xA,xn,xc,rfl⟩:∃A n c,x0=.slice A n c:=by obtain ⟨A,c,e,_⟩:=hx0.out;exact ⟨A,_,c,e⟩
       have lx:=Rd.len hxx Try.underlying43;rw [←HNF.out] at lx;clear hx0 ho3 hh2;by_cases hltp:p<nf
       ·obtain ⟨ad,yt,t2,iy,m3,ht2,hby⟩:=(H.out.t.below B2).at_ HQT.out;obtain rfl:t2=t:=by have:=ht2.out;rw [HT.out] at this;injection this with e;exact e.symm
        obtain ⟨bd,kk,ib,m4,hkk⟩:=hby.out.at_ (P:=Try.prog) Try.underlying41 one_u8 (k:=p) (by have:=HL.out;omega)
        obtain ⟨cd,v,ic,m5,hv⟩:=hxx.at_ (P:=Try.prog) Try.underlying43 one_u64 (k:=p) (by have:=HNF.out;omega)
        have HTK:=hD (numO_take (ns:=ns) (m:=m) (o:=o3) (p:=p) (by rw [HTT.out];exact hkk.out) hv.out)
        have hfd:=HFD.out p (by have:=HNF.out;omega)
        have HLK:=hD (show ((numO m ns o3).fs.take p).length=p by rw [List.length_take,numO_len];have:=HNF.out;omega)
        rw [HTT.out] at hfd;simp only [List.getD_eq_getElem?_getD,hkk.out,hv.out,Option.getD_some] at hfd;have OY:=hD oy;have BB:=hD b;have G8:=hD g8;have HFD2:=hD hfd.2;clear ht2 hby hkk hv hfd oy b hxx;obtain ⟨vn,hvn⟩:=exq v.toNat;rw [←hvn] at m5;by_cases h3:kk.toNat=3
        ·have k3:((kk.toNat:Int)==3)=true:=by rw [beq_iff_eq];omega
         by_cases h0:0<vn
         ·obtain ⟨q2,rfl⟩:∃q2,vn=q2+1:=⟨vn-1,by omega⟩
          clear h0;have m5':wr.cell? cd=some (.int .u64 ((q2:Int)+1)):=by rw [m5];rfl
          obtain ⟨nd,x2,ind,m6,hx2⟩:=(HN.out.below B2).atU (k:=q2) (by have:=HFD2.out h3;have:=HNS.out.1;omega)
          have hxr:=HNS.out.2 x2 (List.mem_of_getElem? hx2.out)
          have HV:=hD (show Go.Proofs.Yteejianjjpdimaa.u64 (numV ns kk v)=.int .u64 (x2+1) by rw [Go.Proofs.Yteejianjjpdimaa.u64,numV_ref h3 hvn.symm hx2.out hxr.1 hxr.2])
          have z1:(0:Int)<(q2:Int)+1:=by omega
          have hq2:q2<961:=by have:=HFD2.out h3;have:=HNS.out.1;have:=HNO.out;omega
          have z2:IntKind.u64.wrap (q2:Int)=(q2:Int):=by show (q2:Int) % 18446744073709551616=_;omega
          have z3:IntKind.i64.wrap (x2+1)=x2+1:=IntWalk.i64_in _ (by omega)
          have z4:IntKind.u64.wrap (x2+1)=x2+1:=by show (x2+1) % 18446744073709551616=_;omega
          clear m5 hvn h3 hx2 hxr;go_upto_region 17 with (fail)
          go_wp2_with (at_builtin;refine wpList_append (by rfl) rfl rfl rfl Try.underlying43 info_u64 rfl (by omega) (by exact own_below OY.out ((Below.refl _ wr).alloc (Nat.le_refl _) _)) (by exact lit_rd) (by simp [Value.oneCell']) (by rw [HLK.out];omega) (by rw [HLK.out];omega) (by exact BB.out.alloc BB.out.size _) (Nat.le_refl _) ?_;intro v1 w3 oo3 B3 g3';obtain ⟨vA,vn1,vc,rfl⟩:∃A n c,v1=.slice A n c:=by { obtain ⟨A,c,e⟩:=own_form' oo3;exact ⟨A,_,c,e⟩ };have q8:=Bx.grown (G8.out.below ((Below.refl _ wr).alloc (Nat.le_refl _) (.cells #[.int .u64 (x2+1)] 46))) g3' (own_not_bx (own_below OY.out ((Below.refl _ wr).alloc (Nat.le_refl _) (.cells #[.int .u64 (x2+1)] 46))) (G8.out.below ((Below.refl _ wr).alloc (Nat.le_refl _) (.cells #[.int .u64 (x2+1)] 46))) (by decide));have c8:=q8.cell;have f8:=q8.free)
          have HQ8:=hD (And.intro q8 (And.intro oo3 B3))
          clear q8 c8 f8 oo3 B3 g3' g8 c_g8 c_g1 m1 m2 lx
          go_roundg (nf-(p+1))
          case measure=>omega
          case rel=>
           obtain ⟨q8,oo3,B3⟩:=HQ8.out;refine ⟨p+1,by omega,rfl,by go_num,hD ⟨_,own_set (OwnW.of (l:=(numO m ns o3).fs.take (p+1)) oo3 ?_) q8 (by decide),?_,B3.setCell (p:=⟨wn.heap.size,1,none⟩) (Nat.le_refl _) _⟩⟩
           ·rw [HTK.out,List.map_append,←HV.out];rfl
           ·have:=q8.set (i:=1) (.slice vA vn1 vc)
            simpa using this
         ·have HV:=hD (show Go.Proofs.Yteejianjjpdimaa.u64 (numV ns kk v)=.int .u64 vn by rw [numV_other (by omega),Go.Proofs.Yteejianjjpdimaa.u64,hvn])
          have z1:decide ((0:Int)<(vn:Int))=false:=by rw [decide_eq_false_iff_not];omega
          clear hvn h3;go_upto_region 17 with (fail)
          go_wp2_with (at_builtin;refine wpList_append (by rfl) rfl rfl rfl Try.underlying43 info_u64 rfl (by omega) (by exact own_below OY.out ((Below.refl _ wr).alloc (Nat.le_refl _) _)) (by exact lit_rd) (by simp [Value.oneCell']) (by rw [HLK.out];omega) (by rw [HLK.out];omega) (by exact BB.out.alloc BB.out.size _) (Nat.le_refl _) ?_;intro v1 w3 oo3 B3 g3';obtain ⟨vA,vn1,vc,rfl⟩:∃A n c,v1=.slice A n c:=by { obtain ⟨A,c,e⟩:=own_form' oo3;exact ⟨A,_,c,e⟩ };have q8:=Bx.grown (G8.out.below ((Below.refl _ wr).alloc (Nat.le_refl _) (.cells #[.int .u64 (vn:Int)] 46))) g3' (own_not_bx (own_below OY.out ((Below.refl _ wr).alloc (Nat.le_refl _) (.cells #[.int .u64 (vn:Int)] 46))) (G8.out.below ((Below.refl _ wr).alloc (Nat.le_refl _) (.cells #[.int .u64 (vn:Int)] 46))) (by decide));have c8:=q8.cell;have f8:=q8.free)
          have HQ8:=hD (And.intro q8 (And.intro oo3 B3))
          clear q8 c8 f8 oo3 B3 g3' g8 c_g8 c_g1 m1 m2 lx
          go_roundg (nf-(p+1))
          case measure=>omega
          case rel=>
           obtain ⟨q8,oo3,B3⟩:=HQ8.out;refine ⟨p+1,by omega,rfl,by go_num,hD ⟨_,own_set (OwnW.of (l:=(numO m ns o3).fs.take (p+1)) oo3 ?_) q8 (by decide),?_,B3.setCell (p:=⟨wn.heap.size,1,none⟩) (Nat.le_refl _) _⟩⟩
           ·rw [HTK.out,List.map_append,←HV.out];rfl
           ·have:=q8.set (i:=1) (.slice vA vn1 vc)
            simpa using this
        ·have k3:((kk.toNat:Int)==3)=false:=by rw [beq_eq_false_iff_ne];omega
         have HV:=hD (show Go.Proofs.Yteejianjjpdimaa.u64 (numV ns kk v)=.int .u64 vn by rw [numV_other (by omega),Go.Proofs.Yteejianjjpdimaa.u64,hvn])
         clear hvn h3;go_upto_region 17 with (fail)
         go_wp2_with (at_builtin;refine wpList_append (by rfl) rfl rfl rfl Try.underlying43 info_u64 rfl (by omega) (by exact own_below OY.out ((Below.refl _ wr).alloc (Nat.le_refl _) _)) (by exact lit_rd) (by simp [Value.oneCell']) (by rw [HLK.out];omega) (by rw [HLK.out];omega) (by exact BB.out.alloc BB.out.size _) (Nat.le_refl _) ?_;intro v1 w3 oo3 B3 g3';obtain ⟨vA,vn1,vc,rfl⟩:∃A n c,v1=.slice A n c:=by { obtain ⟨A,c,e⟩:=own_form' oo3;exact ⟨A,_,c,e⟩ };have q8:=Bx.grown (G8.out.below ((Below.refl _ wr).alloc (Nat.le_refl _) (.cells #[.int .u64 (vn:Int)] 46))) g3' (own_not_bx (own_below OY.out ((Below.refl _ wr).alloc (Nat.le_refl _) (.cells #[.int .u64 (vn:Int)] 46))) (G8.out.below ((Below.refl _ wr).alloc (Nat.le_refl _) (.cells #[.int .u64 (vn:Int)] 46))) (by decide));have c8:=q8.cell;have f8:=q8.free)
         have HQ8:=hD (And.intro q8 (And.intro oo3 B3))
         clear q8 c8 f8 oo3 B3 g3' g8 c_g8 c_g1 m1 m2 lx
         go_roundg (nf-(p+1))
         case measure=>omega
         case rel=>
          obtain ⟨q8,oo3,B3⟩:=HQ8.out;refine ⟨p+1,by omega,rfl,by go_num,hD ⟨_,own_set (OwnW.of (l:=(numO m ns o3).fs.take (p+1)) oo3 ?_) q8 (by decide),?_,B3.setCell (p:=⟨wn.heap.size,1,none⟩) (Nat.le_refl _) _⟩⟩
          ·rw [HTK.out,List.map_append,←HV.out];rfl
          ·have:=q8.set (i:=1) (.slice vA vn1 vc)
           simpa using this
       ·obtain rfl:p=nf:=by omega
        have hfs:(numO m ns o3).fs.take p=(numO m ns o3).fs:=by rw [List.take_of_length_le];rw [numO_len];have:=HNF.out;omega
        rw [hfs] at oy;have hqq:(numO m ns o3).ty=(q:Int):=HQ.out;have hL1:(numJ m ns j++numN m ns j k).length≤922600:=by
         rw [List.length_append]
         have h1:=HB1.out j (by omega);have h2:=numN_len m ns j k;omega
        obtain ⟨oT,oO,oS,g1,g3,g5,B⟩:=HG.out;obtain ⟨oA2,on2,oc2,rfl⟩:∃A n c,ov2=.slice A n c:=by obtain ⟨vs,z1,z2,_⟩:=oO;obtain ⟨A,c,e⟩:=own_form' z2;exact ⟨A,_,c,e⟩
        obtain ⟨vs,z1,z2,z4,z5⟩:=oO;have c5:=(g5.below b).cell;have ba:=b.alloc b.size (.cells #[.int .i64 (q:Int),.slice yA yn yc] 45)
        have HA:=hD (And.intro z1 (And.intro z2 (And.intro z4 (And.intro z5 (And.intro oT (And.intro oS (And.intro g1 (And.intro g3 (And.intro g5 (And.intro B (And.intro oy (And.intro b (And.intro ba g8)))))))))))))
        clear z1 z4 z5 oT oS g1 g3 g5 B oy b g8;have Z2:=hD (own_below z2 ba);have BA:=hD ba;clear z2 ba hfs m1;have hn5:=hp5;have hqqH:=hD hqq;have HL1:=hD hL1;clear hqq hL1;go_upto_region 18 with (fail)
        go_wp2_with (at_builtin;refine wpList_append (by rfl) rfl rfl rfl Try.underlying23 info_obj rfl (by omega) (by exact Z2.out) (by exact lit_obj) (by exact one_obj rfl) (by have:=HL1.out;omega) (by have:=HL1.out;omega) (by exact HA.out.2.2.2.2.2.2.2.2.2.1.trans (BA.out.mono hB0)) (by omega) ?_;intro v1 w3 oo3 B3 g3';obtain ⟨vA,vn1,vc,rfl⟩:∃A n c,v1=.slice A n c:=by { obtain ⟨A,c,e⟩:=own_form' oo3;exact ⟨A,_,c,e⟩ };have MM:=hD (copyO_mem (o:=numO m ns o3) (a:=w.heap.size) (b:=w.heap.size+1) (p:=p5) HA.out.1 HA.out.2.1 HA.out.2.2.1 HA.out.2.2.2.1 HA.out.2.2.2.2.2.2.2.2.2.2.1 HA.out.2.2.2.2.2.2.2.2.2.2.2.1 (by rw [hqqH.out];exact oo3) (by rw [hqqH.out];exact g3') HA.out.2.2.2.2.2.2.1 HA.out.2.2.2.2.2.2.2.1 HA.out.2.2.2.2.2.2.2.2.1 HA.out.2.2.2.2.1 HA.out.2.2.2.2.2.1 HA.out.2.2.2.2.2.2.2.2.2.1 hB0 (by omega) (by omega) (by omega) HA.out.2.2.2.2.2.2.1 (own_not_bx HA.out.2.1 HA.out.2.2.2.2.2.2.1 (by decide)) (by omega));have hc:=MM.out.1.1;have hf:=MM.out.1.2;clear oo3 B3 g3')
        have HM:=hD MM.out.2;clear MM hc hf c5 c_g8 c_g1 m2 lx HA Z2 BA
        go_roundg (NO-(k+1))
        case measure=>omega
        case rel=>
         obtain ⟨k1,k2,k3,k4,k5,k6,k7,_⟩:=HM.out;refine ⟨k+1,by omega,rfl,by go_num,hD ⟨_,k5,?_,k6,k2,k3,k4,k7⟩⟩
         rw [numN_eq HX.out,HE.out,←List.append_assoc];exact k1
     ·have e1:(x != (j:Int))=true:=by rw [bne_iff_ne];exact hxj
      have HE:=hD (numN_ne (m:=m) hx.out hxj)
      clear hxj oT oO oS g1 g3 g5;go_wp2
      go_roundg (NO-(k+1))
      case measure=>omega
      case rel=>
       refine ⟨k+1,by omega,rfl,by go_num,?_⟩
       rw [HE.out];exact hh
    ·obtain rfl:k=NO:=by omega
     have HJ:=hh;clear hh;go_wp2
     go_roundg (k-(j+1))
     case measure=>omega
     case rel=>
      refine ⟨j+1,by omega,rfl,by go_num,hD ?_⟩
      rw [numJ_succ,←HNO.out];exact HJ.out
  ·obtain rfl:j=NO:=by omega
   obtain ⟨ov2,oT,oO,oS,g1,g3,g5,B⟩:=hh.out;obtain ⟨oA2,on2,oc2,rfl⟩:∃A n c,ov2=.slice A n c:=by obtain ⟨vs,z1,z2,_⟩:=oO;obtain ⟨A,c,e⟩:=own_form' z2;exact ⟨A,_,c,e⟩
   have HM:=hD (And.intro (OwnM.mk (m:=⟨m.types,numJ m ns j,m.slots⟩) oT oO oS) (And.intro g3 (And.intro g5 B)))
   clear hh oT oO oS g1 g3 g5 B;go_wp2
   go_loopg [11] 16 (fun g i wr=>∃j2:Nat,j2≤16∧g=16-j2∧i=.int .i64 j2∧Hid (OwnM wr w.heap.size 48 (.slice tA tn tc) (.slice oA2 on2 oc2) (.slice (some ⟨gS,0,none⟩) 16 sc) ⟨m.types,numJ m ns j,(m.slots.take j2).map (numS ns)++m.slots.drop j2⟩∧Bx wr (w.heap.size+1) 26 #[.slice none 0 0,.slice none 0 0,.slice none 0 0]∧Bx wr p5 26 #[.slice tA tn tc,.slice oA2 on2 oc2,.slice (some ⟨gS,0,none⟩) 16 sc]∧Below w.heap.size w wr))
   case atStart=>exact ⟨0,by omega,by omega,rfl,hD (by simpa using HM.out)⟩
   case round=>
    clear HM;obtain ⟨j2,hj2,rfl,rfl,hh⟩:=hrel;obtain ⟨om,g3,g5,B⟩:=hh.out;have c_g5:=g5.cell;have hgS:=om.s.lt gS rfl;by_cases hlt2:j2<16
    ·obtain ⟨s,hs⟩:∃s,m.slots[j2]?=some s:=⟨_,List.getElem?_eq_getElem (by have:=HK.out.1;omega)⟩
     have hs2:=numS_get (ns:=ns) hs;have hso:=HK.out.2.2.2 s (List.mem_of_getElem? hs)
     obtain ⟨ix,q0,q1,q2⟩:=OwnS.cells om.s hs2;cases hu:s.used
     ·rw [hu] at q1;have HE:=hD (numS_same (ns:=ns) hs hu)
      clear hs hs2 hso q0 q2 om g3 B;go_wp2
      go_roundg (16-(j2+1))
      case measure=>omega
      case rel=>
       refine ⟨j2+1,by omega,rfl,by go_num,?_⟩
       rw [HE.out];exact hh
     ·rw [hu] at q1;obtain ⟨a1,a2,a3⟩:=hso.2.2 hu;obtain ⟨na,hna⟩:=Int.eq_ofNat_of_zero_le a2;rw [hna] at q2;obtain ⟨xa,x,ia,mx,hx⟩:=(HN.out.below B).at_ (P:=Try.prog) Try.underlying30 one_int (k:=na) (by have:=HNO.out;have:=HNS.out.1;omega)
      have HP:=hD (OwnS.put1 om.s hs2 x)
      have fz:=HP.out.2.2.2.2;have hM3:=OwnM.slots om HP.out.2.1 HP.out.1;have nx:=fun {q:Nat} {tq:TypeId} {cs:Array Value} (hb:Bx wr q tq cs) (hne:gS≠q)=>hb.grown HP.out.2.1 (.inr (fun e=>hne (by injection e)))
      have n3:gS≠w.heap.size+1:=own_ne_bx om.s g3 (by decide)
      have n5:gS≠p5:=own_ne_bx om.s g5 (by decide)
      have r3:=nx g3 n3;have r4:=nx g5 n5;have hb3:=B.grown HP.out.2.1 B.size (fun k hk=>by injection hk with hk;rw [←hk];exact HP.out.2.2.1)
      have HH:=hD (And.intro hM3 (And.intro r3 (And.intro r4 hb3)))
      have HE:=hD (show ((m.slots.take j2).map (numS ns)++m.slots.drop j2).set j2 ⟨s.gen,s.used,x⟩=(m.slots.take (j2+1)).map (numS ns)++m.slots.drop (j2+1) by
       rw [←numS_take hs];congr 1;rw [numS,if_pos hu,hna,hu];simp [List.getD_eq_getElem?_getD,hx.out])
      clear nx r3 r4 hb3 hM3 hh;go_upto_region 23 with (fail)
      go_still_tail 14,(by kernel_rfl)
      change wpList _ _ _ _ _ wr.drew
      have q2':wr.drew.cell? ⟨gS,j2*3+2,none⟩=some (.int .i64 na):=q2;have fz':∀j,wr.drew.frozen? ⟨gS,j,none⟩=false:=fz;clear om g3 g5 c_g5 B ix q0 q1 q2 ia mx fz hs hs2 hso a1 a2 a3;go_wp2;clear q2' fz'
      go_roundg (16-(j2+1))
      case measure=>omega
      case rel=>
       refine ⟨j2+1,by omega,rfl,by go_num,hD ?_⟩
       rw [←HE.out]
       exact ⟨⟨HH.out.1.t,HH.out.1.o,HH.out.1.s⟩,HH.out.2.1,HH.out.2.2.1,HH.out.2.2.2.drew⟩
    ·obtain rfl:j2=16:=by omega
     have hm2:(m.slots.take 16).map (numS ns)++m.slots.drop 16=m.slots.map (numS ns):=by
      rw [List.take_of_length_le (by have:=HK.out.1;omega),List.drop_of_length_le (by have:=HK.out.1;omega),List.append_nil]
     rw [hm2,HNO.out] at om;have HOM:=hD om;clear hh om hm2;have c_g3:=g3.cell;have f_g3:=g3.free;go_wp2;refine bodyPost_ret (v:=.agg #[.slice tA tn tc,.slice oA2 on2 oc2,.slice (some ⟨gS,0,none⟩) 16 sc]) (by simp [results,Try.results8,go_sem,c_g3,f_g3]) rfl ?_;refine ⟨_,_,_,rfl,OwnM.set3 HOM.out g3,?_⟩
     exact ((B.setCell (p:=⟨w.heap.size+1,0,none⟩) (by simp) _).setCell (p:=⟨w.heap.size+1,1,none⟩) (by simp) _).setCell (p:=⟨w.heap.size+1,2,none⟩) (by simp) _
end
section
open Go.RowKit L02 L13 L18 L20
def Fr (b:Nat) (w w':World):Prop:=w.heap.size≤w'.heap.size∧∀(g:Nat) (t:TypeId) (cs:Array Value),b≤g→t≠46→Bx w g t cs→Bx w' g t cs
theorem Bx.fr {b g:Nat} {w w':World} {t:TypeId} {cs:Array Value} (h:Bx w g t cs) (hf:Fr b w w') (hb:b≤g) (ht:t≠46):Bx w' g t cs:=hf.2 g t cs hb ht h
def KeepB (B:Nat) (w w':World):Prop:=∀(v:Value) (l:List UInt8),OwnB w B 5 v l→OwnB w' B 5 v l
theorem OwnT.atB {w:World} {base:Nat} {v:Value} {L:List (List UInt8)} (h:OwnT w base v L) {k:Nat} {l:List UInt8} (hl:L[k]?=some l):
  ∃ad y,(∀W,(Instr.indexAt 22 v (.int .i64 (k:Int))).run Try.prog W=.ok (.pointer (some ad)) W)∧w.cell? ad=some y∧OwnB w base 5 y l:=by
 obtain ⟨vs,h1,h2,h4⟩:=h;have hk:k<L.length:=(List.getElem?_eq_some_iff.1 hl).1;have hv:vs[k]?=some vs[k]:=List.getElem?_eq_getElem (by omega)
 exact ⟨cellAt v (k*1),vs[k],fun W=>Rd.ixN (Rd.of_own h2) Try.underlying22 one_bytes hk W,by rw [Nat.mul_one];exact Rd.cell (Rd.of_own h2) hv,h4 k _ _ hv hl⟩
structure Rough (m:Mo):Prop where
 n:m.objs.length≤1000
 o:∀o∈m.objs,(0≤o.ty∧o.ty<m.types.length)∧o.fs.length=(ty m.types o).length∧o.fs.length≤20
theorem refs_any (m:Mo) (tv ov sv:Value) (fid:Nat) (first cap:Array Value) (B0:Nat) (J:Nat→Nat→Mo→World→Prop) (w:World) (hw:B0≤w.heap.size) (hr:Rough m) (hcf:∀args W,(callFunc fid args).run Try.prog W=.ok (.enter fid args) W)
  (hst:∀n i m' W W',J n i m' W→Below W.heap.size W W'→J n i m' W')
  (hnx:∀n m' W,n<m.objs.length→J n (ob m n).fs.length m' W→J (n+1) 0 m' W)
  (hno:∀n i m' W,n<m.objs.length→i<(ob m n).fs.length→((ty m.types (ob m n)).getD i 0).toNat≠3→J n i m' W→J n (i+1) m' W)
  (hcl:∀n i m' gf W,n<m.objs.length→i<(ob m n).fs.length→((ty m.types (ob m n)).getD i 0).toNat=3→Like m m'→w.heap.size≤W.heap.size→OwnM W B0 48 tv ov sv m'→OwnF W B0 ov m'.objs n gf→J n i m' W→
   Calls Try.prog fid (first++(#[.int .i64 n,.pointer (some ⟨gf,i,none⟩)]++cap)) W fun e W'=>e=.returned (.tuple #[])∧∃m'',Like m m''∧OwnM W' B0 48 tv ov sv m''∧OwnF W' B0 ov m''.objs n gf∧J n (i+1) m'' W'∧Fr w.heap.size W W'∧KeepB B0 W W')
  (m0:Mo) (hl:Like m m0) (h:OwnM w B0 48 tv ov sv m0) (hj:J 0 0 m0 w):
  Calls Try.prog 27 #[.agg #[tv,ov,sv],.func (.func fid) first cap] w fun e w'=>e=.returned (.tuple #[])∧∃m',Like m m'∧OwnM w' B0 48 tv ov sv m'∧J m.objs.length 0 m' w':=by
 obtain ⟨N,hN⟩:=exq m.objs.length;have HST:=hD hst;have HNX:=hD hnx;have HNO:=hD hno;have HCL:=hD hcl;have HR:=hD hr;have HN:=hD hN;have HL0:=hD hl;have hN1:N≤1000:=by rw [hN];exact hr.n
 clear hst hnx hno hcl hr hl hN;obtain ⟨tA,tn,tc,rfl⟩:=h.forms.1;obtain ⟨oA,on,oc,rfl⟩:=h.forms.2.1;obtain ⟨sA,sn,sc,rfl⟩:=h.forms.2.2;go_in;go_upto_region 1 with (fail)
 have b:=(Below.refl w.heap.size w).alloc (Nat.le_refl _) (.cells #[.slice tA tn tc,.slice oA on oc,.slice sA sn sc] 26)
 refine wp_gen (fun Wv=>Bx Wv w.heap.size 26 #[.slice tA tn tc,.slice oA on oc,.slice sA sn sc]∧OwnM Wv B0 48 (.slice tA tn tc) (.slice oA on oc) (.slice sA sn sc) m0∧J 0 0 m0 Wv∧w.heap.size<Wv.heap.size) ⟨Bx.at_ (by simp),h.below b,HST.out _ _ _ _ _ hj b,by simp⟩ ?_;clear b h hj;rintro wa ⟨g1,om,hj,hz⟩
 have c_g1:=g1.cell;have lo:=om.o.rd.len;rw [HL0.out.2.1,←HN.out] at lo;have HI:=hD (And.intro g1 (And.intro om (And.intro HL0.out (And.intro hj hz))))
 clear g1 om hj HL0;go_wp2;clear c_g1 lo
 go_loopg [11] N (fun g i wr=>∃n:Nat,n≤N∧g=N-n∧i=.int .i64 n∧Hid (∃m',Bx wr w.heap.size 26 #[.slice tA tn tc,.slice oA on oc,.slice sA sn sc]∧OwnM wr B0 48 (.slice tA tn tc) (.slice oA on oc) (.slice sA sn sc) m'∧Like m m'∧J n 0 m' wr∧w.heap.size<wr.heap.size))
 case atStart=>exact ⟨0,by omega,by omega,rfl,hD ⟨_,HI.out⟩⟩
 case round=>
  clear HI hz;obtain ⟨n,hn,rfl,rfl,hh⟩:=hrel;obtain ⟨m',g1,om,hl,hj,hz⟩:=hh.out;by_cases hlt:n<N
  ·have hnm:n<m.objs.length:=by rw [←HN.out];exact hlt
   obtain ⟨o,ho⟩:∃o,m'.objs[n]?=some o:=⟨_,List.getElem?_eq_getElem (by rw [hl.2.1];exact hnm)⟩
   have hob:ob m' n=o:=ob_at ho;obtain ⟨oo,hoo⟩:∃o,m.objs[n]?=some o:=⟨_,List.getElem?_eq_getElem hnm⟩
   have hoob:ob m n=oo:=ob_at hoo;have hlk:=hl.2.2 n;rw [hob,hoob] at hlk;obtain ⟨⟨hq0,hq1⟩,hfl,hf20⟩:=HR.out.o oo (List.mem_of_getElem? hoo)
   obtain ⟨q,hq⟩:=Int.eq_ofNat_of_zero_le hq0;have hqt:q<m'.types.length:=by rw [hl.1];omega
   obtain ⟨t,ht⟩:∃t,m'.types[q]?=some t:=⟨_,List.getElem?_eq_getElem hqt⟩
   have htt:ty m.types oo=t:=by rw [ty,hq,←hl.1];simp [List.getD_eq_getElem?_getD,ht]
   have hoq:o.ty=(q:Int):=by rw [hlk.1,hq]
   obtain ⟨nt,hnt⟩:=exq t.length;have hofl:o.fs.length=nt:=by rw [hlk.2,hfl,htt,hnt]
   have hnt20:nt≤20:=by omega
   have HOF:=hD hofl;have c_g1:=g1.cell;obtain ⟨ad,yt,iy,m3,hby⟩:=om.t.atB ht;have ly:=Rd.len (OwnB.rd hby) Try.underlying41;rw [←hnt] at ly;by_cases hf:0<nt
   ·obtain ⟨b,bq,gf,nf,cf,ix,p0,p1,hb,of_,hnf,hix⟩:=om.o.at_ ho (by omega)
    rw [hoq] at p0;rw [hofl] at hix hnf;obtain rfl:nt=nf:=hnf.symm;have HNT:=hD hnt;clear hnt hofl;have HC:=hD (And.intro hl (And.intro hj (And.intro om of_)))
    obtain ⟨wn,hwn⟩:=exq wr;subst hwn;clear hh;go_upto_region 4 with (fail)
    have b':=(Below.refl wn.heap.size wn).alloc (Nat.le_refl _) (.cells #[.int .i64 (q:Int),.slice (some ⟨gf,0,none⟩) nt cf] 45)
    refine wp_gen (fun Wv=>Bx Wv wn.heap.size 45 #[.int .i64 (q:Int),.slice (some ⟨gf,0,none⟩) nt cf]∧Below wn.heap.size wn Wv∧wn.heap.size<Wv.heap.size) ?_ ?_
    ·exact ⟨Bx.new wn _ _,b',by simp⟩
    clear b' p0 p1 ix;rintro wb ⟨g5,b5,hz5⟩
    have HX:=hD (And.intro (g1.below b5) (And.intro g5 (And.intro (OwnM.below HC.out.2.2.1 b5) (And.intro (OwnF.below HC.out.2.2.2 b5) (And.intro HC.out.1 (And.intro (HST.out _ _ _ _ _ HC.out.2.1 b5) (And.intro hz5 (own_below hby b5))))))))
    have c_g1:=(g1.below b5).cell;have c_g5:=g5.cell;have m3':=cell_later b5 m3;clear g1 g5 b5 m3 HC om of_ hj hl hby;go_wp2;clear c_g1 c_g5 m3' iy
    go_loopg [23] nt (fun g i wr=>∃p:Nat,p≤nt∧g=nt-p∧i=.int .i64 p∧Hid (∃m',Bx wr w.heap.size 26 #[.slice tA tn tc,.slice oA on oc,.slice sA sn sc]∧Bx wr wn.heap.size 45 #[.int .i64 (q:Int),.slice (some ⟨gf,0,none⟩) nt cf]∧OwnM wr B0 48 (.slice tA tn tc) (.slice oA on oc) (.slice sA sn sc) m'∧OwnF wr B0 (.slice oA on oc) m'.objs n gf∧Like m m'∧J n p m' wr∧wn.heap.size<wr.heap.size∧OwnB wr B0 5 yt t))
    case atStart=>exact ⟨0,by omega,by omega,rfl,hD ⟨_,HX.out⟩⟩
    case round=>
     clear HX;obtain ⟨p,hp,rfl,rfl,hh⟩:=hrel;obtain ⟨m2,g1,g5,om,of_,hl,hj,hz2,hby⟩:=hh.out;have c_g1:=g1.cell;have c_g5:=g5.cell;have ix:=hix p;by_cases hltp:p<nt
     ·have ix:=hix p (by omega)
      obtain ⟨bd,kk,ib,m4,hkk⟩:=((OwnB.rd hby).at_ (P:=Try.prog) Try.underlying41 one_u8 (k:=p) (by rw [←HNT.out];exact hltp))
      have hpm:p<(ob m n).fs.length:=by rw [hoob,←hlk.2,HOF.out];exact hltp
      have hkm:(ty m.types (ob m n)).getD p 0=kk:=by rw [hoob,htt];simp [List.getD_eq_getElem?_getD,hkk.out]
      clear hkk;by_cases h3:kk.toNat=3
      ·have k3:((kk.toNat:Int)==3)=true:=by rw [beq_iff_eq];omega
       have HCC:=hD (HCL.out n p m2 gf wr hnm hpm (by rw [hkm];exact h3) hl (by omega) om of_ hj)
       have HG:=hD (And.intro g1 (And.intro g5 (And.intro hby hz2)))
       clear g1 g5 hby hz2 om of_ hl hj;go_upto_region 8 with (fail)
       go_wp2_with fail;refine HCC.out.mono ?_;rintro e w' ⟨rfl,m3,a1,a2,a3,a4,a5,a6⟩
       obtain ⟨g1,g5,hby,hz2⟩:=HG.out;have HJ:=hD (And.intro (g1.fr a5 (Nat.le_refl _) (by decide)) (And.intro (g5.fr a5 (by omega) (by decide)) (And.intro a2 (And.intro a3 (And.intro a1 (And.intro a4 (And.intro (Nat.lt_of_lt_of_le hz2 a5.1) (a6 _ _ hby))))))))
       clear a1 a2 a3 a4 a5 a6 g1 g5 hby hz2 HG HCC;go_wp2
       go_roundg (nt-(p+1))
       case measure=>omega
       case rel=>exact ⟨p+1,by omega,rfl,by go_num,hD ⟨m3,HJ.out⟩⟩
      ·have k3:((kk.toNat:Int)==3)=false:=by rw [beq_eq_false_iff_ne];omega
       have HJ:=hD (HNO.out n p m2 wr hnm hpm (by rw [hkm];exact h3) hj)
       clear hj;go_wp2
       go_roundg (nt-(p+1))
       case measure=>omega
       case rel=>exact ⟨p+1,by omega,rfl,by go_num,hD ⟨m2,g1,g5,om,of_,hl,HJ.out,hz2,hby⟩⟩
     ·obtain rfl:p=nt:=by omega
      have HJ:=hD (HNX.out n m2 wr hnm (by rw [hoob,←hlk.2,HOF.out];exact hj))
      clear hj ix;go_wp2
      go_roundg (N-(n+1))
      case measure=>omega
      case rel=>exact ⟨n+1,by omega,rfl,by go_num,hD ⟨m2,g1,om,hl,HJ.out,by omega⟩⟩
   ·obtain ⟨bo,bq,x0,o2,ix,p0,p1,ho2,hx0,hob2⟩:=(om.o.rd).at_ (k:=n) (by rw [hl.2.1];exact hnm)
    obtain rfl:o2=o:=by have:=ho2.out;rw [ho] at this;injection this with e;exact e.symm
    obtain ⟨xA,xn,xc,rfl⟩:∃A n c,x0=.slice A n c:=by obtain ⟨A,c,e,_⟩:=hx0.out;exact ⟨A,_,c,e⟩
    rw [hoq] at p0;obtain rfl:nt=0:=by omega
    clear hx0 ho2 hnt;have HC:=hD (And.intro hl (And.intro hj om))
    obtain ⟨wn,hwn⟩:=exq wr;subst hwn;clear hh;go_upto_region 4 with (fail)
    have b':=(Below.refl wn.heap.size wn).alloc (Nat.le_refl _) (.cells #[.int .i64 (q:Int),.slice xA xn xc] 45)
    refine wp_gen (fun Wv=>Bx Wv wn.heap.size 45 #[.int .i64 (q:Int),.slice xA xn xc]∧Below wn.heap.size wn Wv∧wn.heap.size<Wv.heap.size) ?_ ?_
    ·exact ⟨Bx.new wn _ _,b',by simp⟩
    clear b' p0 p1 ix;rintro wb ⟨g5,b5,hz5⟩
    have HX:=hD (And.intro (g1.below b5) (And.intro (OwnM.below HC.out.2.2 b5) (And.intro HC.out.1 (And.intro (HST.out _ _ _ _ _ HC.out.2.1 b5) hz5))))
    have c_g1:=(g1.below b5).cell;have c_g5:=g5.cell;have m3':=cell_later b5 m3;clear g1 g5 b5 m3 HC om hj hl hby;go_wp2;clear c_g1 c_g5 m3' iy
    go_loopg [23] 0 (fun g i wr=>g=0∧i=.int .i64 0∧Hid (Bx wr w.heap.size 26 #[.slice tA tn tc,.slice oA on oc,.slice sA sn sc]∧OwnM wr B0 48 (.slice tA tn tc) (.slice oA on oc) (.slice sA sn sc) m'∧Like m m'∧J n 0 m' wr∧wn.heap.size<wr.heap.size))
    case atStart=>exact ⟨rfl,rfl,HX⟩
    case round=>
     clear HX;obtain ⟨rfl,rfl,hh⟩:=hrel;obtain ⟨g1,om,hl,hj,hz2⟩:=hh.out;have HJ:=hD (HNX.out n m' wr hnm (by rw [hoob,←hlk.2,HOF.out];exact hj))
     go_wp2
     go_roundg (N-(n+1))
     case measure=>omega
     case rel=>exact ⟨n+1,by omega,rfl,by go_num,hD ⟨m',g1,om,hl,HJ.out,by omega⟩⟩
  ·obtain rfl:n=N:=by omega
   go_wp2;refine bodyPost_end (results_none rfl _ _ _) rfl ?_;refine ⟨rfl,m',hl,om,?_⟩
   rw [←HN.out];exact hj
end
section
open Go Go.RowKit
section
variable {P:Program} {ops:Array Oper} {w:World}
theorem wpStill_of_quiet {Q:Act→Prop}:∀(l:List Oper) (a:Act),wpQuiet P ops (fun W=>W=w) Q l a→wpStill P ops w Q l a
 | [],a,h=>h
 | o :: l,a,h=>by
  unfold wpQuiet at h;unfold wpStill;by_cases hw:Region.wanted o (yielded ops a.tmps)=true
  ·rw [if_pos hw] at h ⊢;obtain ⟨v,h1,h2⟩:=h;have h3:=h1 w rfl;have h4:=wpStill_of_quiet l _ h2;unfold Oper.quietAt at h3;unfold Oper.still;cases hr:(execOp a.eval o).run P w with
   | ok n w'=>
    rw [hr] at h3;cases n with
    | value u=>obtain ⟨e1,e2⟩:=h3;subst e2;exact ⟨e1,h4⟩
    | skip=>obtain ⟨e1,e2⟩:=h3;subst e2;exact ⟨e1,h4⟩
    | enter f args=>obtain ⟨e1,e2⟩:=h3;exact ⟨e1,v,e2,h4⟩
    | _=>exact absurd h3 id
   | halt x w'=>rw [hr] at h3;exact absurd h3 id
  ·rw [if_neg hw] at h ⊢;exact wpStill_of_quiet l _ h
theorem wp_region_qtail {id:Nat} {Q:Exit→Act→World→Prop} {a:Act} {l:List Oper} (n:Nat) (hm:P.follows .mixedOrders=true) (hB:Region.lexTailB .any l.toArray n=true)
  (h:wpQuiet P l.toArray (fun W=>W=w.drew) (fun a'=>wpList P l.toArray Q (l.drop n) a' w.drew) (l.take n) a):(Code.region id l.toArray true).wp P Q a w:=
 wp_region_still_tail n hm hB (wpStill_of_quiet _ _ h)
end
end
section
open Go.RowKit L02 L13 L18 L20
theorem Free1_any (k own gf i pb po:Nat) (v:UInt64) (b b':Bool) (hb':b'=(b || (decide (k≠own) && decide (v.toNat=own+1)))) (ho:own≤1000) (w:World)
  (hv:w.cell? ⟨gf,i,none⟩=some (.int .u64 v.toNat)) (hf:w.frozen? ⟨gf,i,none⟩=false) (g1:Bx w pb 4 #[.bool b]) (g2:Bx w po 3 #[.int .i64 own]) (n1:gf≠pb) (n2:po≠pb):
  Calls Try.prog 41 #[.int .i64 k,.pointer (some ⟨gf,i,none⟩),.pointer (some ⟨pb,0,none⟩),.pointer (some ⟨po,0,none⟩)] w fun e w'=>e=.returned (.tuple #[])∧
   ∃q,w'=if own+1<v.toNat then (((w.drew).setCell ⟨pb,0,none⟩ (.bool b')).drewN q).setCell ⟨gf,i,none⟩ (.int .u64 (v.toNat-1:Nat)) else ((w.drew).setCell ⟨pb,0,none⟩ (.bool b')).drewN q:=by
 obtain ⟨vn,hvn⟩:=exq v.toNat;have hvl:=v.toNat_lt;rw [←hvn] at hv hb' hvl ⊢;have c1:=g1.cell;have f1:=g1.free;have c2:=g2.cell;have hw1:IntKind.u64.wrap (own:Int)=(own:Int):=by show (own:Int) % 18446744073709551616=_;omega
 have hw2:IntKind.u64.wrap ((own:Int)+1)=(own:Int)+1:=by show ((own:Int)+1) % 18446744073709551616=_;omega
 have HB:=hD hb';clear hb' hvn;obtain ⟨R,hR⟩:∃R:World→Prop,R=fun w'=>∃q,w'=if own+1<vn then (((w.drew).setCell ⟨pb,0,none⟩ (.bool b')).drewN q).setCell ⟨gf,i,none⟩ (.int .u64 (vn-1:Nat)) else ((w.drew).setCell ⟨pb,0,none⟩ (.bool b')).drewN q:=⟨_,rfl⟩
 have HR:=hD hR;have HG:=hD (And.intro (show Bx w.drew pb 4 #[.bool b] from g1) (And.intro (show Bx w.drew po 3 #[.int .i64 own] from g2) (And.intro (show w.drew.cell? ⟨gf,i,none⟩=some (.int .u64 vn) from hv) (show w.drew.frozen? ⟨gf,i,none⟩=false from hf))))
 have main:Calls Try.prog 41 #[.int .i64 k,.pointer (some ⟨gf,i,none⟩),.pointer (some ⟨pb,0,none⟩),.pointer (some ⟨po,0,none⟩)] w fun e w'=>e=.returned (.tuple #[])∧R w':=by
  clear hR g1 g2;have cases:(b=true∧b'=true)∨(b=false∧b'=false∧((k:Int) != (own:Int))=false)∨(b=false∧b'=false∧((k:Int) != (own:Int))=true∧((vn:Int)==(own:Int)+1)=false)∨(b=false∧b'=true∧((k:Int) != (own:Int))=true∧((vn:Int)==(own:Int)+1)=true):=by
   rw [HB.out]
   cases b
   ·refine .inr ?_;by_cases hk:k=own
    ·exact .inl ⟨rfl,by simp [hk],by rw [bne_eq_false_iff_eq];omega⟩
    ·refine .inr ?_;by_cases h2:vn=own+1
     ·exact .inr ⟨rfl,by simp [hk,h2],by rw [bne_iff_ne];omega,by rw [beq_iff_eq];omega⟩
     ·exact .inl ⟨rfl,by simp [h2],by rw [bne_iff_ne];omega,by rw [beq_eq_false_iff_ne];omega⟩
   ·exact .inl ⟨rfl,by simp⟩
  rcases cases with ⟨rfl,rfl⟩ | ⟨rfl,rfl,hk1⟩ | ⟨rfl,rfl,hk1,hv1⟩ | ⟨rfl,rfl,hk1,hv1⟩
  all_goals
   clear HB;go_in;go_upto_region 0 with (fail)
   refine wp_region_qtail 15 (by kernel_rfl) (by kernel_rfl) ?_;simp only [List.take_succ_cons,List.take_zero,List.drop_succ_cons,List.drop_zero]
   iterate 15 (go_big_quiet_step (fail))
   refine wpQuiet_nil ?_;clear c1 f1 c2 hv hf;have c1:=HG.out.1.cell;have f1:=HG.out.1.free;go_upto_region 1 with (fail)
   refine wp_gen (fun Wv=>Wv=(w.drew).setCell ⟨pb,0,none⟩ (.bool _)) rfl ?_;intro W hW;have hv:W.cell? ⟨gf,i,none⟩=some (.int .u64 vn):=by rw [hW];exact cell_far (q:=⟨pb,0,none⟩) HG.out.2.2.1 n1
   have hf:W.frozen? ⟨gf,i,none⟩=false:=by rw [hW,World.frozen?_setCell];exact HG.out.2.2.2
   have c2:∀i:Nat,W.cell? ⟨po,i,none⟩=#[Value.int .i64 (own:Int)][i]?:=fun i=>by rw [hW];exact (HG.out.2.1.far (p:=⟨pb,0,none⟩) n2 _).cell i
   have HW:=hD hW;clear hW HG c1 f1;try clear hk1 hv1
   try clear hk1
   by_cases hlt:own+1<vn
   ·have hd:decide ((own:Int)+1<(vn:Int))=true:=by rw [decide_eq_true_iff];omega
    have hw3:IntKind.u64.wrap ((vn:Int)-1)=(vn:Int)-1:=by show ((vn:Int)-1) % 18446744073709551616=_;omega
    go_big_quiet (fail)
    go_wp2;refine bodyPost_end (results_none rfl _ _ _) rfl ⟨rfl,?_⟩
    rw [HR.out]
    refine ⟨nq,?_⟩
    rw [if_pos hlt,←HW.out]
    congr 2;omega
   ·have hd:decide ((own:Int)+1<(vn:Int))=false:=by rw [decide_eq_false_iff_not];omega
    go_big_quiet (fail)
    go_wp2;refine bodyPost_end (results_none rfl _ _ _) rfl ⟨rfl,?_⟩
    rw [HR.out]
    refine ⟨nq,?_⟩
    rw [if_neg hlt,←HW.out]
 subst hR;exact main
theorem Canon1_any (k gf i pc pf:Nat) (v:UInt64) (tv ov sv nv rv:Value) (ks:List Int) (x:Int) (w:World) (hx:0<v.toNat→ks[v.toNat-1]?=some x) (hx0:0≤x∧x≤1000) (hl:v.toNat≤1000)
  (hv:w.cell? ⟨gf,i,none⟩=some (.int .u64 v.toNat)) (hf:w.frozen? ⟨gf,i,none⟩=false) (g1:Bx w pc 62 #[.pointer (some ⟨pf,0,none⟩)]) (g2:Bx w pf 64 #[tv,ov,sv,nv,rv]) (hn:Ints w nv ks):
  Calls Try.prog 28 #[.int .i64 k,.pointer (some ⟨gf,i,none⟩),.pointer (some ⟨pc,0,none⟩)] w fun e w'=>e=.returned (.tuple #[])∧
   w'=if 0<v.toNat then (w.drew).setCell ⟨gf,i,none⟩ (.int .u64 x) else w:=by
 obtain ⟨vn,hvn⟩:=exq v.toNat;rw [←hvn] at hv hx hl ⊢;have c1:=g1.cell;have c2:=g2.cell;have hw3:IntKind.u64.wrap x=x:=by show x % 18446744073709551616=_;omega
 obtain ⟨R,hR⟩:∃R:World→Prop,R=fun w'=>w'=if 0<vn then (w.drew).setCell ⟨gf,i,none⟩ (.int .u64 x) else w:=⟨_,rfl⟩
 have HR:=hD hR;have HN:=hD hn;have HX:=hD hx;have main:Calls Try.prog 28 #[.int .i64 k,.pointer (some ⟨gf,i,none⟩),.pointer (some ⟨pc,0,none⟩)] w fun e w'=>e=.returned (.tuple #[])∧R w':=by
  clear hR g1 g2 hn hvn hx;by_cases h0:0<vn
  ·obtain ⟨q,rfl⟩:∃q,vn=q+1:=⟨vn-1,by omega⟩
   have hxx:=HX.out h0;rw [Nat.add_sub_cancel] at hxx;obtain ⟨nd,x2,ind,m6,hx2⟩:=HN.out.atU (k:=q) (List.getElem?_eq_some_iff.1 hxx).1;obtain rfl:x2=x:=by have:=hx2.out;rw [hxx] at this;injection this with e;exact e.symm
   have hv':w.cell? ⟨gf,i,none⟩=some (.int .u64 ((q:Int)+1)):=by rw [hv];rfl
   have hne:((q:Int)+1 != 0)=true:=by rw [bne_iff_ne];omega
   have z2:IntKind.u64.wrap (q:Int)=(q:Int):=by show (q:Int) % 18446744073709551616=_;omega
   clear hv h0 hx2 hxx;go_in;go_upto_region 1 with (fail)
   refine wp_region_qtail 13 (by kernel_rfl) (by kernel_rfl) ?_;simp only [List.take_succ_cons,List.take_zero,List.drop_succ_cons,List.drop_zero]
   iterate 13 (go_big_quiet_step (fail))
   refine wpQuiet_nil ?_;have hv2:w.drew.cell? ⟨gf,i,none⟩=some (.int .u64 ((q:Int)+1)):=hv';have hf2:w.drew.frozen? ⟨gf,i,none⟩=false:=hf;clear c1 c2 m6 hv' hf;go_wp2;refine bodyPost_end (results_none rfl _ _ _) rfl ⟨rfl,?_⟩
   rw [HR.out]
   show _=if 0<q+1 then _ else _
   rw [if_pos (by omega)]
   rfl
  ·obtain rfl:vn=0:=by omega
   have hv':w.cell? ⟨gf,i,none⟩=some (.int .u64 0):=by rw [hv];rfl
   clear hv;go_in;go_wp2;refine bodyPost_end (results_none rfl _ _ _) rfl ⟨rfl,?_⟩
   rw [HR.out]
   rfl
 subst hR;exact main
end
section
open Go.RowKit L02 L13 L18 L20
theorem obC_erase:∀{L:List Ob} {vs:List Value} {i:Nat},vs.length=L.length→obC (L.eraseIdx i) (vs.eraseIdx i)=(obC L vs).take (i*2)++(obC L vs).drop ((i+1)*2)
 | [],[],i,_=>by simp [obC]
 | [],_ :: _,_,h=>by simp at h
 | _ :: _,[],_,h=>by simp at h
 | o :: L,x :: vs,0,h=>by simp [obC]
 | o :: L,x :: vs,i+1,h=>by
  rw [List.eraseIdx_cons_succ,List.eraseIdx_cons_succ,obC,obC_erase (by simpa using h),obC]
  rw [show (i+1)*2=i*2+1+1 by omega,show (i+1+1)*2=(i*2+1+1)+1+1 by omega]
  simp
theorem run_clear_obj (w:World) (ty:TypeId) (b o c:Nat) (hc:∀j,j<2→(w.cell? ⟨b,o+j,none⟩).isSome=true) (hf:∀j,j<2→w.frozen? ⟨b,o+j,none⟩=false):
  (Builtin.clear_ #[23] ty #[.slice (some ⟨b,o,none⟩) 1 c]).run Try.prog w=.ok (.tuple #[]) (w.setCells b o [.int .i64 0,.slice none 0 0]):=by
 have hst:=run_storeCells_cells (P:=Try.prog) b o [.int .i64 0,.slice none 0 0] 0 w (by simpa using hc) (by simpa using hf) (by simp [Value.oneCell'])
 simp only [Nat.add_zero] at hst;obtain ⟨i,hi1,hi2,hi3,hi4⟩:=info3 info_obj;have hz:(zeroValue 45).run Try.prog w=.ok (.agg #[.int .i64 0,.slice none 0 0]) w:=by
  simp [zeroValue,typeInfo,hi1,hi2,go_sem]
 have hzc:(Builtin.zeroCells (Value.agg #[.int .i64 0,.slice none 0 0]).cells 1).toList=[.int .i64 0,.slice none 0 0]:=by kernel_rfl
 simp [Builtin.clear_,run_underlying Try.underlying23,hz,hzc,hst]
section
variable {P:Program} {ops:Array Oper} {rest:List Oper} {o:Oper} {a:Act} {Q:Exit→Act→World→Prop} {w:World}
theorem wpList_appendRoom (hgd:Region.wanted o (yielded ops a.tmps)=true) {s x:Operand} {t e:TypeId} (ho:o.op=.call { callee:=.builtin .append,args:=#[s,x],argTypes:=#[t,t] }) (ht:P.underlying t=some (.slice e)) {size:Nat} (hi:(P.info? e).map (·.size)=some size)
  {b off n cap:Nat} (hs:a.eval s=.slice (some ⟨b,off,none⟩) n cap) {ad:Addr} {m c:Nat} (news:List Value) (hx:a.eval x=.slice (some ad) m c) (hn:news.length=m*size) (hc:∀j u,news[j]?=some u→w.cell? (ad.add j)=some u) (h1:∀u∈news,u.oneCell'=true)
  (hroom:n+m≤cap) (hspare:∀j,j<news.length→(w.cell? ⟨b,off+n*size+j,none⟩).isSome=true∧w.frozen? ⟨b,off+n*size+j,none⟩=false)
  (h:wpList P ops Q rest (a.put o.dst (.slice (some ⟨b,off,none⟩) (n+m) cap)) (w.setCells b (off+n*size) news)):wpList P ops Q (o :: rest) a w:=by
 obtain ⟨i,hi',rfl⟩:=Option.map_eq_some_iff.1 hi;have hrun:=run_append_room_cells (P:=P) w t o.type e i ht hi' b off n cap ad m c news hn hc h1 hroom (fun j hj=>(hspare j hj).1) (fun j hj=>(hspare j hj).2)
 refine wpList_wanted hgd fun K hK=>?_;unfold Oper.wp;simp [execOp,ho,resolve,invoke,builtin,hs,hx,hrun,Result.andThen]
 exact hK _ _ h
end
theorem setCells_size (g:Nat):∀(l:List Value) (o:Nat) (w:World),(w.setCells g o l).heap.size=w.heap.size
 | [],_,_=>rfl
 | v :: r,o,w=>by rw [World.setCells,setCells_size g r];simp [World.setCell]
theorem setCells_os (g:Nat):∀(l:List Value) (o:Nat) (w:World),(w.setCells g o l).os=w.os∧(w.setCells g o l).tape=w.tape∧(w.setCells g o l).output=w.output
 | [],_,_=>⟨rfl,rfl,rfl⟩
 | v :: r,o,w=>by rw [World.setCells];exact setCells_os g r (o+1) _
theorem setCells_block (g:Nat) {k:Nat} (hk:k≠g):∀(l:List Value) (o:Nat) (w:World),(w.setCells g o l).heap[k]?=w.heap[k]?
 | [],_,_=>rfl
 | v :: r,o,w=>by rw [World.setCells,setCells_block g hk r];exact Below.heap_setCell w ⟨g,o,none⟩ v k hk
theorem setCells_grown (g o:Nat) (l:List Value) (w:World):w.grownBy (w.setCells g o l) (some g):=
 ⟨(setCells_os g l o w).1,(setCells_os g l o w).2.1,(setCells_os g l o w).2.2,by rw [setCells_size];exact Nat.le_refl _,fun k hk hne=>setCells_block g (by intro e;exact hne (by rw [e])) l o w⟩
theorem Delete_any (g n cap i j B:Nat) (xs:List Value) (hj:j=i+1) (hi:i<n) (hn:n≤1000) (w:World) (h:w.ownsRow B 45 2 (.slice (some ⟨g,0,none⟩) n cap) n xs) (h1:∀u∈xs,u.oneCell'=true):
  Calls Try.prog 42 #[.slice (some ⟨g,0,none⟩) n cap,.int .i64 i,.int .i64 j] w fun e w'=>e=.returned (.slice (some ⟨g,0,none⟩) (n-1:Nat) cap)∧
   w'.ownsRow B 45 2 (.slice (some ⟨g,0,none⟩) (n-1) cap) (n-1) (xs.take (i*2)++xs.drop ((i+1)*2))∧w.grownBy w' (some g):=by
 obtain ⟨g',cap',cur,hv,hB,hg,hnc,hcm,hcs,htk⟩:=own_form h (by omega)
 injection hv with e1 e2 e3;injection e1 with e1;injection e1 with e1;subst e1;subst e3
 have hxl:=h.1;obtain ⟨news,hnews⟩:=exq (xs.drop ((i+1)*2))
 have hnl:news.length=(n-j)*2:=by rw [hnews,List.length_drop,hxl];omega
 have hcell:∀(k:Nat) u,xs[k]?=some u→w.cell? ⟨g,k,none⟩=some u:=fun k u hu=>by
  rw [blk_cell hg]
  rw [←htk,List.getElem?_take] at hu;split at hu
  ·simpa using hu
  ·cases hu
 obtain ⟨A,hA,hsrc⟩:∃A:Addr,(if cap=j then some (⟨g,0,none⟩:Addr) else some ⟨g,j*2,none⟩)=some A∧∀t u,news[t]?=some u→w.drew.cell? (A.add t)=some u:=by
  by_cases hc:cap=j
  ·refine ⟨⟨g,0,none⟩,by simp [hc],fun t u hu=>?_⟩
   have h0:news.length=0:=by rw [hnl];omega
   rw [List.length_eq_zero_iff.1 h0] at hu;simp at hu
  ·refine ⟨⟨g,j*2,none⟩,by simp [hc],fun t u hu=>?_⟩
   rw [hnews,List.getElem?_drop] at hu;rw [Addr.add_lit]
   have:=hcell _ u hu;rw [hj];exact this
 have hone:∀u∈news,u.oneCell'=true:=fun u hu=>h1 u (by rw [hnews] at hu;exact List.mem_of_mem_drop hu)
 have hspare:∀t,t<news.length→(w.drew.cell? ⟨g,0+i*2+t,none⟩).isSome=true∧w.drew.frozen? ⟨g,0+i*2+t,none⟩=false:=fun t ht=>by
  refine ⟨?_,blk_free (w:=w.drew) hg _⟩
  have:=blk_cell (w:=w.drew) hg (0+i*2+t)
  rw [this,Array.getElem?_eq_getElem (by rw [hcs,hnl] at *;omega)];rfl
 obtain ⟨W1,hW1⟩:=exq (w.drew.setCells g (0+i*2) news)
 have hg1:Bx W1 g 45 (putL cur (0+i*2) news):=by rw [hW1];exact Bx.setCells news (0+i*2) (show Bx w.drew g _ cur from hg)
 have hsz1:(putL cur (0+i*2) news).size=cap*2:=by rw [putL_size];exact hcs
 have hcl:=run_clear_obj W1 0 g ((n-1)*2) (cap-(n-1)) (fun k hk=>by rw [hg1.cell,Array.getElem?_eq_getElem (by rw [hsz1];omega)];rfl) (fun k hk=>hg1.free _)
 obtain ⟨W2,hW2⟩:=exq (W1.setCells g ((n-1)*2) [.int .i64 0,.slice none 0 0])
 rw [←hW2] at hcl;have hg2:Bx W2 g 45 (putL (putL cur (0+i*2) news) ((n-1)*2) [.int .i64 0,.slice none 0 0]):=by rw [hW2];exact hg1.setCells _ _
 have HFIN:=hD (show W2.ownsRow B 45 2 (.slice (some ⟨g,0,none⟩) (n-1) cap) (n-1) (xs.take (i*2)++xs.drop ((i+1)*2))∧w.grownBy W2 (some g) from by
  refine ⟨⟨by rw [List.length_append,List.length_take,List.length_drop,hxl];omega,.inr ⟨g,cap,_,rfl,hB,hg2,by omega,hcm,by rw [putL_size];exact hsz1,?_⟩⟩,?_⟩
  ·apply List.ext_getElem?;intro k;rw [List.getElem?_take]
   split
   ·rename_i hk;rw [Array.getElem?_toList,putL_get _ _ _ _ (by rw [hsz1];simp;omega),if_neg (by omega),putL_get _ _ _ _ (by rw [hnl,hcs];omega)]
    by_cases hki:k<i*2
    ·rw [if_neg (by omega),List.getElem?_append_left (by rw [List.length_take,hxl];omega),List.getElem?_take,if_pos hki,←htk,List.getElem?_take,if_pos (by omega),Array.getElem?_toList]
    ·rw [if_pos (by rw [hnl];omega),List.getElem?_append_right (by rw [List.length_take,hxl];omega),hnews,List.length_take,hxl]
     congr 1;omega
   ·rename_i hk;rw [List.getElem?_eq_none (by rw [List.length_append,List.length_take,List.length_drop,hxl];omega)]
  ·have k1:=setCells_grown g (0+i*2) news w.drew;have k2:=setCells_grown g ((n-1)*2) [.int .i64 0,.slice none 0 0] W1;rw [←hW1] at k1;rw [←hW2] at k2;exact ⟨k2.os.trans k1.os,k2.tape.trans k1.tape,k2.output.trans k1.output,Nat.le_trans k1.size k2.size,fun k hk hne=>(k2.block k (Nat.lt_of_lt_of_le hk k1.size) hne).trans (k1.block k hk hne)⟩)
 have HA:=hD (And.intro hA (And.intro hsrc (And.intro hone (And.intro hspare (And.intro hnl (And.intro hW1 hj))))))
 have hb1:i≤cap:=by omega
 have hb2:j≤cap:=by omega
 have hb3:i≤j:=by omega
 have hb4:j≤n:=by omega
 have hne:((i:Int)==(j:Int))=false:=by rw [beq_eq_false_iff_ne];omega
 clear hW2 hg2 hW1 hg1 hsz1 hspare hone hsrc hcell hnl hnews htk hcs hcm hg hB h hxl h1 hj;go_in;go_upto_region 5 with (fail)
 refine wp_region_qtail 6 (by kernel_rfl) (by kernel_rfl) ?_;simp only [List.take_succ_cons,List.take_zero,List.drop_succ_cons,List.drop_zero]
 iterate 6 (go_big_quiet_step (fail))
 refine wpQuiet_nil ?_;refine wpList_appendRoom (by rfl) (s:=.tmp 22) (x:=.tmp 25) rfl Try.underlying23 size_obj (b:=g) (off:=0) (n:=i) (cap:=cap) (by rfl) (ad:=A) (m:=n-j) (c:=cap-j) news (by rw [←HA.out.1];rfl) HA.out.2.2.2.2.1 HA.out.2.1 HA.out.2.2.1 (by omega) HA.out.2.2.2.1 ?_;rw [←HA.out.2.2.2.2.2.1]
 have hij:i+(n-j)=n-1:=by have:=HA.out.2.2.2.2.2.2;omega
 rw [hij]
 simp only [Act.put,List.setIfInBounds_toArray,List.set_cons_zero,List.set_cons_succ]
 obtain ⟨n1,hn1⟩:=exq (n-1)
 rw [←hn1] at hcl ⊢;have hc1:¬cap=n1:=by omega
 have hc2:n-n1=1:=by omega
 have hc3:n1≤n:=by omega
 have hc4:n≤cap:=hnc;have HN:=hD hn1;clear hij hn1 hne hb1 hb2 hb3 hb4 hi;go_wp2
 go_ret
 rw [←HN.out] at HFIN ⊢;exact ⟨rfl,HFIN.out⟩
theorem OwnO.erase {w:World} {B g n cap:Nat} {L:List Ob} (h:OwnO w B (.slice (some ⟨g,0,none⟩) n cap) L) {i:Nat} (hi:i<L.length) (hn:L.length≤1000):
  n=L.length∧∃xs,w.ownsRow B 45 2 (.slice (some ⟨g,0,none⟩) n cap) n xs∧(∀u∈xs,u.oneCell'=true)∧∀W,w.grownBy W (some g)→W.ownsRow B 45 2 (.slice (some ⟨g,0,none⟩) (n-1) cap) (n-1) (xs.take (i*2)++xs.drop ((i+1)*2))→OwnO W B (.slice (some ⟨g,0,none⟩) (n-1) cap) (L.eraseIdx i):=by
 obtain ⟨vs,h1,h2,h4,h5⟩:=h;obtain ⟨g',cap',cur,hv,_⟩:=own_form h2 (by omega)
 injection hv with e1 e2 e3
 subst e2;refine ⟨rfl,_,h2,?_,fun W hg ho=>⟨vs.eraseIdx i,?_,?_,?_,?_⟩⟩
 ·intro u hu
  have:∀(L:List Ob) (vs:List Value),(∀x∈vs,x.oneCell'=true)→∀u∈obC L vs,u.oneCell'=true:=by
   intro L;induction L with
   | nil=>intro vs _ u hu;simp [obC] at hu
   | cons o L ih=>
    intro vs hvs u hu;cases vs with
    | nil=>simp [obC] at hu
    | cons x vs=>
     rw [obC] at hu;rcases List.mem_cons.1 hu with h | h
     ·rw [h];rfl
     ·rcases List.mem_cons.1 h with h | h
      ·rw [h];exact hvs x List.mem_cons_self
      ·exact ih vs (fun y hy=>hvs y (List.mem_cons_of_mem _ hy)) u h
  refine this L vs (fun x hx=>?_) u hu;obtain ⟨k,hk⟩:=List.mem_iff_getElem?.1 hx;have hkl:k<L.length:=by rw [←h1];exact (List.getElem?_eq_some_iff.1 hk).1
  exact (h4 k x _ hk (List.getElem?_eq_getElem hkl)).rd.oneCell
 ·rw [List.length_eraseIdx_of_lt (by omega),List.length_eraseIdx_of_lt hi,h1]
 ·rw [List.length_eraseIdx_of_lt hi,obC_erase h1];exact ho
 ·intro k x o hx ho2;rw [List.getElem?_eraseIdx] at hx ho2;split at hx
  ·rename_i hk;rw [if_pos hk] at ho2
   have:=h4 k x o hx ho2;exact World.ownsRow.kept this hg (own_unlike this h2 (by decide))
  ·rename_i hk;rw [if_neg hk] at ho2
   have:=h4 _ x o hx ho2;exact World.ownsRow.kept this hg (own_unlike this h2 (by decide))
 ·intro a b x y hab hx hy;rw [List.getElem?_eraseIdx] at hx hy;split at hx <;> split at hy <;> exact h5 _ _ x y (by omega) hx hy
end
end Go.Proofs.Yteejianjjpdimaa
