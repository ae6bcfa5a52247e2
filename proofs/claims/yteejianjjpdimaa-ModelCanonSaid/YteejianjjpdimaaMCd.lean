/- Contracts of the functions that the laws 'C' reach, part 4. No condition. -/
import Derived.Test.YteejianjjpdimaaMCc
set_option linter.unusedVariables false
set_option linter.unusedSimpArgs false
set_option maxRecDepth 100000
set_option maxHeartbeats 8000000
namespace Go.Proofs.Yteejianjjpdimaa
section
open Go.RowKit L02 L13 L18 L20
theorem sl_split (NO:Nat) (s:Sl):(¬SlOk NO s∧(decide (s.gen<0)=true∨(decide (s.gen<0)=false∧decide (2147483647<s.gen)=true)∨
   (decide (s.gen<0)=false∧decide (2147483647<s.gen)=false∧((s.used=false∧(s.at_ != 0)=true)∨(s.used=true∧((s.gen==0)=true∨((s.gen==0)=false∧(decide (s.at_<0)=true∨(decide (s.at_<0)=false∧decide ((NO:Int)≤s.at_)=true)))))))) )∨
  (SlOk NO s∧decide (s.gen<0)=false∧decide (2147483647<s.gen)=false∧((s.used=false∧(s.at_ != 0)=false)∨(s.used=true∧(s.gen==0)=false∧decide (s.at_<0)=false∧decide ((NO:Int)≤s.at_)=false))):=by
 obtain ⟨g,u,a⟩:=s;unfold SlOk;dsimp only;simp only [decide_eq_true_eq,decide_eq_false_iff_not,bne_iff_ne,bne_eq_false_iff_eq,beq_iff_eq,beq_eq_false_iff_ne]
 cases u
 ·simp only [Bool.false_eq_true,false_and,or_false,true_and,true_implies,false_implies,and_true]
  omega
 ·simp only [Bool.true_eq_false,false_and,false_or,true_and,true_implies,false_implies]
  omega
theorem validR_any (tv ov sv:Value) (m:Mo) (b:Bool) (hb:b=decide (MoOk m)) (w:World) (h:Mod w tv ov sv m):
  Calls Try.prog 32 #[.agg #[tv,ov,sv]] w fun e w'=>e=.returned (.bool b)∧Below w.heap.size w w':=by
 have B:=Below.refl w.heap.size w;have lt:=h.t.len;have lo:=h.o.len;have ls:=h.s.len;have lt':=h.t.len_le;have lo':=h.o.len_le;have ls':=h.s.len_le;have hbad:¬MoOk m→b=false:=fun h2=>by rw [hb,decide_eq_false h2]
 obtain ⟨NT,hNT⟩:=exq m.types.length;obtain ⟨NO,hNO⟩:=exq m.objs.length;obtain ⟨NS,hNS⟩:=exq m.slots.length;rw [←hNT] at lt lt';rw [←hNO] at lo lo';rw [←hNS] at ls ls';have H:=hD h;have HNT:=hD hNT;have HNO:=hD hNO;have HNS:=hD hNS;have HBAD:=hD hbad;have HB0:=hD hb;clear h hNT hNO hNS hbad hb;go_in;go_upto_region 1 with (fail)
 refine wpb1 (26) (#[tv,ov,sv]) ?_;rintro wa1 ⟨g1,b⟩
 replace B:=B.trans (b.mono B.size);clear b;replace c_g1:=g1.five;have HB:=hD B;clear B;go_wp2;have HG1:=hD g1;clear g1 c_g1
 go_loopg [3] NT (fun g i wr=>∃j:Nat,j≤NT∧g=NT-j∧i=.int .i64 j∧Hid ((∀(i:Nat) t,i<j→m.types[i]?=some t→kErr t=0)∧Bx wr w.heap.size 26 #[tv,ov,sv]∧Below w.heap.size w wr))
 case atStart=>exact ⟨0,by omega,by omega,rfl,hD ⟨fun i t hi=>by omega,HG1.out,HB.out⟩⟩
 case round=>
  clear HG1 HB;obtain ⟨j,hj,rfl,rfl,hh⟩:=hrel;have g1:=hh.out.2.1;have c_g1:=g1.cell;by_cases hlt:j<NT
  ·obtain ⟨ad,y,t,iy,m0,ht,hby⟩:=(H.out.t.below hh.out.2.2).at_ (k:=j) (by have:=HNT.out;omega)
   by_cases hk:kErr t=0
   ·have KT:=hD (KCheckR_any y t 0 hk.symm)
    have HK:=hD hk;clear hk;go_wp2_with fail;refine (KT.out _ hby.out).mono ?_;rintro e w2 ⟨rfl,rfl⟩
    go_wp2
    go_roundg (NT-(j+1))
    case measure=>omega
    case rel=>
     refine ⟨j+1,by omega,rfl,by go_num,hD ⟨fun i u hi hu=>?_,hh.out.2⟩⟩
     by_cases hij:i<j
     ·exact hh.out.1 i u hij hu
     ·obtain rfl:i=j:=by omega
      have:=ht.out;rw [hu] at this;injection this with this;subst this;exact HK.out
   ·have hbf:=HBAD.out (no_type ht.out hk)
    subst hbf;obtain ⟨z,hz⟩:=exq (kErr t)
    have KT:=hD (KCheckR_any y t z hz)
    have hne:(z != 0)=true:=by rw [bne_iff_ne,hz];exact hk
    clear hk hz;go_wp2_with fail;refine (KT.out _ hby.out).mono ?_;rintro e w2 ⟨rfl,rfl⟩
    go_wp2
    go_ret
    exact ⟨rfl,hh.out.2.2⟩
  ·obtain rfl:j=NT:=by omega
   have HT:=hD (hh.out.1);have HB:=hD hh.out.2.2;clear hh;go_wp2;have HG1:=hD g1;clear g1 c_g1
   go_loopg [4] NO (fun g i wr=>∃k:Nat,k≤NO∧g=NO-k∧i=.int .i64 k∧Hid ((∀(i:Nat) o,i<k→m.objs[i]?=some o→ObOk m.types m.objs.length o)∧Bx wr w.heap.size 26 #[tv,ov,sv]∧Below w.heap.size w wr))
   case atStart=>exact ⟨0,by omega,by omega,rfl,hD ⟨fun i t hi=>by omega,HG1.out,HB.out⟩⟩
   case round=>
    clear HG1 HB;obtain ⟨k,hk,rfl,rfl,hh⟩:=hrel;have g1:=hh.out.2.1;have c_g1:=g1.cell;by_cases hltk:k<NO
    ·obtain ⟨ob,oq,x,o,ix,m0,m1,ho,hx,hob⟩:=(H.out.o.below hh.out.2.2).at_ (k:=k) (by have:=HNO.out;omega)
     have B:=hh.out.2.2;have HA:=hD hh.out.1;have hxx:=hx.out;obtain ⟨xA,xn,xc,rfl⟩:∃A n c,x=.slice A n c:=by obtain ⟨A,c,e,_⟩:=hx.out;exact ⟨A,_,c,e⟩
     have lx:=Rd.len hxx Try.underlying43;have lx':=Rd.len_le hxx;obtain ⟨n,hn⟩:=exq o.fs.length;rw [←hn] at lx lx';have HN:=hD hn;clear hn hx;clear hh;go_upto_region 10 with (fail)
     refine wpb1 (45) (#[.int .i64 o.ty,.slice xA xn xc]) ?_;rintro wa1 ⟨g2,b⟩
     replace g1:=g1.below b;replace c_g1:=g1.five;replace hxx:=hxx.below b;replace B:=B.trans (b.mono B.size);clear b;replace c_g2:=g2.five;clear m0 m1;by_cases hty:0≤o.ty∧o.ty<j
     ·obtain ⟨q,hq⟩:=Int.eq_ofNat_of_zero_le hty.1;have hqt:q<m.types.length:=by have:=HNT.out;omega
      obtain ⟨ad,y,t,iy,m0,ht,hby⟩:=(H.out.t.below B).at_ hqt;have ht':ty m.types o=t:=by rw [ty,hq];simp [List.getD_eq_getElem?_getD,ht.out]
      have hby':=hby.out;have ly:=Rd.len hby' Try.underlying41;obtain ⟨nt,hnt⟩:=exq t.length;rw [←hnt] at ly;have HNt:=hD hnt;have HTY:=hD (And.intro hty ht');have HQ:=hD hq;have ha:decide ((q:Int)<0)=false:=by rw [decide_eq_false_iff_not];omega
      have hb1:decide ((j:Int)≤(q:Int))=false:=by rw [decide_eq_false_iff_not];omega
      have hb2:decide (j≤q)=false:=by rw [decide_eq_false_iff_not];omega
      rw [hq] at g2 c_g2;clear hby hq hty ht' hqt ht;by_cases hl:n=nt
      ·have hc:((n:Int) != (nt:Int))=false:=by rw [bne_eq_false_iff_eq];omega
       have HL:=hD hl;clear hnt hl;refine wp_region_calm (by kernel_rfl) (by kernel_rfl) ?_;replace c_g1:=fun x:Fut _=>(g1.below x.h).cell;replace c_g2:=fun x:Fut _=>(g2.below x.h).cell;have c_m0:=fun x:Fut _=>cell_later x.h m0;repeat (go_big_quiet_step (fail))
       refine wpQuiet_nil ?_;intro _ hw';obtain ⟨xq,hw''⟩:=hw';subst hw'';replace g1:=g1.below xq.h;replace c_g1:=g1.five;replace g2:=g2.below xq.h;replace c_g2:=g2.five;replace hxx:=hxx.below xq.h;clear c_m0;replace m0:=cell_later xq.h m0;replace hby':=hby'.below xq.h;replace B:=B.trans (xq.h.mono B.size)
       go_wp2;have HH:=hD (And.intro g1 (And.intro g2 B))
       have HXX:=hD hxx;have HBY:=hD hby';have HM0:=hD m0;clear g1 g2 c_g1 c_g2 B hxx hby' m0
       go_loopg [6] n (fun g i wr2=>∃p:Nat,p≤n∧g=n-p∧i=.int .i64 p∧Hid ((∀i,i<p→FdOk NO (t.getD i 0) (o.fs.getD i 0))∧Bx wr2 w.heap.size 26 #[tv,ov,sv]∧Bx wr2 wr.heap.size 45 #[.int .i64 (q:Int),.slice xA xn xc]∧Below w.heap.size w wr2∧Words wr2 (.slice xA xn xc) o.fs∧Byts wr2 y t∧wr2.cell? ad=some y))
       case atStart=>exact ⟨0,by omega,by omega,rfl,hD ⟨fun i hi=>by omega,HH.out.1,HH.out.2.1,HH.out.2.2,HXX.out,HBY.out,HM0.out⟩⟩
       case round=>
        clear HH HXX HBY HM0;obtain ⟨p,hp,rfl,rfl,hh⟩:=hrel;have HA2:=hD hh.out.1;obtain ⟨g1,g2,B,hxx,hby',m0⟩:=hh.out.2;have c_g1:=g1.cell;have c_g2:=g2.cell;clear hh;by_cases hltp:p<n
        ·obtain ⟨bd,kk,ib,m1,hkk⟩:=hby'.at_ (P:=Try.prog) Try.underlying41 one_u8 (k:=p) (by have:=HNt.out;have:=HL.out;omega)
         obtain ⟨cd,v,ic,m2,hv⟩:=hxx.at_ (P:=Try.prog) Try.underlying43 one_u64 (k:=p) (by have:=HN.out;omega)
         have ek:t.getD p 0=kk:=by simp [List.getD_eq_getElem?_getD,hkk.out]
         have ev:o.fs.getD p 0=v:=by simp [List.getD_eq_getElem?_getD,hv.out]
         have EK:=hD ek;have EV:=hD ev;clear hkk hv ek ev;have hwn:IntKind.u64.wrap ((NO:Nat):Int)=(NO:Int):=by show (NO:Int) % 18446744073709551616=_;omega
         have FT:=hD (FloatR_any v)
         have hcase:=fd_split NO kk v;have hno:∀z,FdOk NO kk v=z→(z→False)→b=false:=fun z hz hf=>HBAD.out (no_obj ho.out (fun hoo=>by
          have h1:=hoo.2.2 p (by rw [←HN.out];exact hltp)
          rw [HTY.out.2,EK.out,EV.out,←HNO.out,hz] at h1;exact hf h1))
         have HNO2:=hD hno;clear hno;rcases hcase with ⟨z,e2,zf⟩ | ⟨z,e3,zf⟩ | ⟨z,e2,zf⟩ | ⟨z,e3,zf⟩ | ⟨z,e2,e3⟩
         ·have hbf:b=false:=HNO2.out _ rfl z;have k2:((kk.toNat:Int)==2)=true:=by rw [beq_iff_eq];omega
          have FT1:=hD (FT.out false (decide_eq_false zf).symm)
          clear z e2 zf FT;subst hbf;go_wp2;refine wp_region_calm (by kernel_rfl) (by kernel_rfl) ?_;replace c_g1:=fun x:Fut _=>(g1.below x.h).cell;replace c_g2:=fun x:Fut _=>(g2.below x.h).cell;have c_m0:=fun x:Fut _=>cell_later x.h m0;have c_m1:=fun x:Fut _=>cell_later x.h m1;have c_m2:=fun x:Fut _=>cell_later x.h m2;repeat (go_big_quiet_step (exact Fut.call (FT1.out _)))
          refine wpQuiet_nil ?_;intro _ hw';obtain ⟨xq,hw''⟩:=hw';subst hw'';replace g1:=g1.below xq.h;replace c_g1:=g1.five;replace g2:=g2.below xq.h;replace c_g2:=g2.five;replace hxx:=hxx.below xq.h;replace hby':=hby'.below xq.h;clear c_m0;replace m0:=cell_later xq.h m0;clear c_m1;replace m1:=cell_later xq.h m1;clear c_m2;replace m2:=cell_later xq.h m2;replace B:=B.trans (xq.h.mono B.size)
          go_wp2
          go_ret
          exact ⟨rfl,B⟩
         ·have hbf:b=false:=HNO2.out _ rfl z;have k2:((kk.toNat:Int)==2)=false:=by rw [beq_eq_false_iff_ne];omega
          have k3:((kk.toNat:Int)==3)=true:=by rw [beq_iff_eq];omega
          clear z e3 FT;subst hbf;go_wp2;refine wp_region_calm (by kernel_rfl) (by kernel_rfl) ?_;replace c_g1:=fun x:Fut _=>(g1.below x.h).cell;replace c_g2:=fun x:Fut _=>(g2.below x.h).cell;have c_m0:=fun x:Fut _=>cell_later x.h m0;have c_m1:=fun x:Fut _=>cell_later x.h m1;have c_m2:=fun x:Fut _=>cell_later x.h m2;repeat (go_big_quiet_step (fail))
          refine wpQuiet_nil ?_;intro _ hw';obtain ⟨xq,hw''⟩:=hw';subst hw'';replace g1:=g1.below xq.h;replace c_g1:=g1.five;replace g2:=g2.below xq.h;replace c_g2:=g2.five;replace hxx:=hxx.below xq.h;replace hby':=hby'.below xq.h;clear c_m0;replace m0:=cell_later xq.h m0;clear c_m1;replace m1:=cell_later xq.h m1;clear c_m2;replace m2:=cell_later xq.h m2;replace B:=B.trans (xq.h.mono B.size)
          go_wp2
          go_ret
          exact ⟨rfl,B⟩
         ·have k2:((kk.toNat:Int)==2)=true:=by rw [beq_iff_eq];omega
          have k3:((kk.toNat:Int)==3)=false:=by rw [beq_eq_false_iff_ne];omega
          have FT1:=hD (FT.out true (decide_eq_true zf).symm)
          have HZ:=hD z;clear z e2 zf FT;go_wp2;refine wp_region_calm (by kernel_rfl) (by kernel_rfl) ?_;replace c_g1:=fun x:Fut _=>(g1.below x.h).cell;replace c_g2:=fun x:Fut _=>(g2.below x.h).cell;have c_m0:=fun x:Fut _=>cell_later x.h m0;have c_m1:=fun x:Fut _=>cell_later x.h m1;have c_m2:=fun x:Fut _=>cell_later x.h m2;repeat (go_big_quiet_step (exact Fut.call (FT1.out _)))
          refine wpQuiet_nil ?_;intro _ hw';obtain ⟨xq,hw''⟩:=hw';subst hw'';replace g1:=g1.below xq.h;replace c_g1:=g1.five;replace g2:=g2.below xq.h;replace c_g2:=g2.five;replace hxx:=hxx.below xq.h;replace hby':=hby'.below xq.h;clear c_m0;replace m0:=cell_later xq.h m0;clear c_m1;replace m1:=cell_later xq.h m1;clear c_m2;replace m2:=cell_later xq.h m2;replace B:=B.trans (xq.h.mono B.size)
          go_wp2;have HH:=hD (And.intro g1 (And.intro g2 (And.intro B (And.intro hxx (And.intro hby' m0)))))
          clear g1 g2 c_g1 c_g2 B hxx hby' m0 m1 m2
          go_roundg (n-(p+1))
          case measure=>omega
          case rel=>
           refine ⟨p+1,by omega,rfl,by go_num,hD ⟨fun i hi=>?_,HH.out⟩⟩
           by_cases hij:i<p
           ·exact HA2.out i hij
           ·obtain rfl:i=p:=by omega
            rw [EK.out,EV.out];exact HZ.out
         ·have k2:((kk.toNat:Int)==2)=false:=by rw [beq_eq_false_iff_ne];omega
          have k3:((kk.toNat:Int)==3)=true:=by rw [beq_iff_eq];omega
          have HZ:=hD z;have zf2:¬NO<v.toNat:=by omega
          clear z e3 FT zf;go_wp2;refine wp_region_calm (by kernel_rfl) (by kernel_rfl) ?_;replace c_g1:=fun x:Fut _=>(g1.below x.h).cell;replace c_g2:=fun x:Fut _=>(g2.below x.h).cell;have c_m0:=fun x:Fut _=>cell_later x.h m0;have c_m1:=fun x:Fut _=>cell_later x.h m1;have c_m2:=fun x:Fut _=>cell_later x.h m2;repeat (go_big_quiet_step (fail))
          refine wpQuiet_nil ?_;intro _ hw';obtain ⟨xq,hw''⟩:=hw';subst hw'';replace g1:=g1.below xq.h;replace c_g1:=g1.five;replace g2:=g2.below xq.h;replace c_g2:=g2.five;replace hxx:=hxx.below xq.h;replace hby':=hby'.below xq.h;clear c_m0;replace m0:=cell_later xq.h m0;clear c_m1;replace m1:=cell_later xq.h m1;clear c_m2;replace m2:=cell_later xq.h m2;replace B:=B.trans (xq.h.mono B.size)
          go_wp2;have HH:=hD (And.intro g1 (And.intro g2 (And.intro B (And.intro hxx (And.intro hby' m0)))))
          clear g1 g2 c_g1 c_g2 B hxx hby' m0 m1 m2
          go_roundg (n-(p+1))
          case measure=>omega
          case rel=>
           refine ⟨p+1,by omega,rfl,by go_num,hD ⟨fun i hi=>?_,HH.out⟩⟩
           by_cases hij:i<p
           ·exact HA2.out i hij
           ·obtain rfl:i=p:=by omega
            rw [EK.out,EV.out];exact HZ.out
         ·have k2:((kk.toNat:Int)==2)=false:=by rw [beq_eq_false_iff_ne];omega
          have k3:((kk.toNat:Int)==3)=false:=by rw [beq_eq_false_iff_ne];omega
          have HZ:=hD z;clear z e2 e3 FT;go_wp2;refine wp_region_calm (by kernel_rfl) (by kernel_rfl) ?_;replace c_g1:=fun x:Fut _=>(g1.below x.h).cell;replace c_g2:=fun x:Fut _=>(g2.below x.h).cell;have c_m0:=fun x:Fut _=>cell_later x.h m0;have c_m1:=fun x:Fut _=>cell_later x.h m1;have c_m2:=fun x:Fut _=>cell_later x.h m2;repeat (go_big_quiet_step (fail))
          refine wpQuiet_nil ?_;intro _ hw';obtain ⟨xq,hw''⟩:=hw';subst hw'';replace g1:=g1.below xq.h;replace c_g1:=g1.five;replace g2:=g2.below xq.h;replace c_g2:=g2.five;replace hxx:=hxx.below xq.h;replace hby':=hby'.below xq.h;clear c_m0;replace m0:=cell_later xq.h m0;clear c_m1;replace m1:=cell_later xq.h m1;clear c_m2;replace m2:=cell_later xq.h m2;replace B:=B.trans (xq.h.mono B.size)
          go_wp2;have HH:=hD (And.intro g1 (And.intro g2 (And.intro B (And.intro hxx (And.intro hby' m0)))))
          clear g1 g2 c_g1 c_g2 B hxx hby' m0 m1 m2
          go_roundg (n-(p+1))
          case measure=>omega
          case rel=>
           refine ⟨p+1,by omega,rfl,by go_num,hD ⟨fun i hi=>?_,HH.out⟩⟩
           by_cases hij:i<p
           ·exact HA2.out i hij
           ·obtain rfl:i=p:=by omega
            rw [EK.out,EV.out];exact HZ.out
        ·obtain rfl:p=n:=by omega
         have hoo:ObOk m.types m.objs.length o:=by
          have h0:=HTY.out;have h1:=HNT.out;have h2:=HN.out;have h3:=HNt.out;have h4:=HL.out;refine ⟨by omega,by rw [h0.2];omega,fun i hi=>?_⟩
          rw [h0.2,←HNO.out]
          exact HA2.out i (by omega)
         have HOO:=hD hoo;clear hoo;go_wp2;have HH:=hD (And.intro g1 B)
         clear g1 g2 c_g1 c_g2 B hxx hby' m0
         go_roundg (NO-(k+1))
         case measure=>omega
         case rel=>
          refine ⟨k+1,by omega,rfl,by go_num,hD ⟨fun i u hi hu=>?_,HH.out⟩⟩
          by_cases hik:i<k
          ·exact HA.out i u hik hu
          ·obtain rfl:i=k:=by omega
           have:=ho.out;rw [hu] at this;injection this with this;subst this
           exact HOO.out
      ·have hc:((n:Int) != (nt:Int))=true:=by rw [bne_iff_ne];omega
       have hbf:b=false:=HBAD.out (no_obj ho.out (fun hoo=>hl (by have h1:=hoo.2.1;have h2:=HTY.out.2;rw [h2,←HNt.out,←HN.out] at h1;exact h1)))
       subst hbf;clear hnt hl;refine wp_region_calm (by kernel_rfl) (by kernel_rfl) ?_;replace c_g1:=fun x:Fut _=>(g1.below x.h).cell;replace c_g2:=fun x:Fut _=>(g2.below x.h).cell;have c_m0:=fun x:Fut _=>cell_later x.h m0;repeat (go_big_quiet_step (fail))
       refine wpQuiet_nil ?_;intro _ hw';obtain ⟨xq,hw''⟩:=hw';subst hw'';replace g1:=g1.below xq.h;replace c_g1:=g1.five;replace g2:=g2.below xq.h;replace c_g2:=g2.five;replace hxx:=hxx.below xq.h;clear c_m0;replace m0:=cell_later xq.h m0;replace hby':=hby'.below xq.h;replace B:=B.trans (xq.h.mono B.size)
       go_wp2
       go_ret
       exact ⟨rfl,B⟩
     ·have hbf:b=false:=HBAD.out (no_obj ho.out (fun hoo=>hty (by have:=HNT.out;have:=hoo.1;omega)))
      subst hbf;obtain ⟨ty,fs⟩:=o;dsimp only at *;by_cases hneg:ty<0
      ·have ha:decide (ty<0)=true:=decide_eq_true hneg;clear hty hneg;refine wp_region_calm (by kernel_rfl) (by kernel_rfl) ?_;replace c_g1:=fun x:Fut _=>(g1.below x.h).cell;replace c_g2:=fun x:Fut _=>(g2.below x.h).cell;repeat (go_big_quiet_step (fail))
       refine wpQuiet_nil ?_;intro _ hw';obtain ⟨xq,hw''⟩:=hw';subst hw'';replace g1:=g1.below xq.h;replace c_g1:=g1.five;replace g2:=g2.below xq.h;replace c_g2:=g2.five;replace B:=B.trans (xq.h.mono B.size)
       go_wp2
       go_ret
       exact ⟨rfl,B⟩
      ·have ha:decide (ty<0)=false:=decide_eq_false hneg;have hb1:decide ((j:Int)≤ty)=true:=by rw [decide_eq_true_iff];omega
       clear hty hneg;refine wp_region_calm (by kernel_rfl) (by kernel_rfl) ?_;replace c_g1:=fun x:Fut _=>(g1.below x.h).cell;replace c_g2:=fun x:Fut _=>(g2.below x.h).cell;repeat (go_big_quiet_step (fail))
       refine wpQuiet_nil ?_;intro _ hw';obtain ⟨xq,hw''⟩:=hw';subst hw'';replace g1:=g1.below xq.h;replace c_g1:=g1.five;replace g2:=g2.below xq.h;replace c_g2:=g2.five;replace B:=B.trans (xq.h.mono B.size)
       go_wp2
       go_ret
       exact ⟨rfl,B⟩
    ·obtain rfl:k=NO:=by omega
     have HO:=hD (hh.out.1);have HB:=hD hh.out.2.2;clear hh;go_wp2;have HG1:=hD g1;clear g1 c_g1
     go_loopg [8] NS (fun g i wr=>∃q:Nat,q≤NS∧g=NS-q∧i=.int .i64 q∧Hid ((∀(i:Nat) o,i<q→m.slots[i]?=some o→SlOk m.objs.length o)∧Bx wr w.heap.size 26 #[tv,ov,sv]∧Below w.heap.size w wr))
     case atStart=>exact ⟨0,by omega,by omega,rfl,hD ⟨fun i t hi=>by omega,HG1.out,HB.out⟩⟩
     case round=>
      clear HG1 HB;obtain ⟨q,hq,rfl,rfl,hh⟩:=hrel;have g1:=hh.out.2.1;have c_g1:=g1.cell;have B:=hh.out.2.2;have HA:=hD hh.out.1;by_cases hltq:q<NS
      ·obtain ⟨sb,sq,s,ix,m0,m1,m2,hs⟩:=(H.out.s.below B).at_ (P:=Try.prog) Try.underlying24 size_slot (k:=q) (by have:=HNS.out;omega)
       have hcase:=sl_split k s;have hsn:¬SlOk k s→b=false:=fun hn=>HBAD.out (no_slot hs.out (by rw [←HNO.out];exact hn))
       have HSN:=hD hsn;clear hsn hh;have HSS:=hD hs.out;clear hs;obtain ⟨gn,us,sa⟩:=s;dsimp only at m0 m1 m2 hcase;go_upto_region 22 with (fail)
       refine wpb1 (48) (#[.int .i64 gn,.bool us,.int .i64 sa]) ?_;rintro wa1 ⟨g2,b⟩
       replace g1:=g1.below b;replace c_g1:=g1.five;replace B:=B.trans (b.mono B.size);clear b;replace c_g2:=g2.five;clear m0 m1 m2;rcases hcase with ⟨z,h1⟩ | ⟨z,h1,h2,h3⟩
       ·have hbf:b=false:=HSN.out z;subst hbf;clear z;rcases h1 with h1 | ⟨h1,h2⟩ | ⟨h1,h2,⟨rfl,h3⟩ | ⟨rfl,h3 | ⟨h3,h4 | ⟨h4,h5⟩⟩⟩⟩
        all_goals
         go_wp2
         go_ret
         exact ⟨rfl,B⟩
       ·have HZ:=hD z;clear z;have HH:=hD (And.intro g1 B)
        rcases h3 with ⟨rfl,h3⟩ | ⟨rfl,h3,h4,h5⟩
        all_goals
         go_wp2;clear g1 g2 c_g1 c_g2 B
         go_roundg (NS-(q+1))
         case measure=>omega
         case rel=>
          refine ⟨q+1,by omega,rfl,by go_num,hD ⟨fun i u hi hu=>?_,?_⟩⟩
          ·by_cases hik:i<q
           ·exact HA.out i u hik hu
           ·obtain rfl:i=q:=by omega
            have:=HSS.out;rw [hu] at this;injection this with this;subst this
            rw [←HNO.out];exact HZ.out
          ·exact HH.out
      ·obtain rfl:q=NS:=by omega
       have hfin:b=decide (q=16):=by
        rw [HB0.out]
        congr 1;rw [eq_iff_iff]
        refine ⟨fun hm=>by rw [HNS.out];exact hm.1,fun h16=>⟨by rw [←HNS.out];exact h16,fun t ht=>?_,fun o ho=>?_,fun s hs=>?_⟩⟩
        ·obtain ⟨i,hi,hit⟩:=List.getElem_of_mem ht;exact HT.out i t (by rw [HNT.out];exact hi) (by rw [List.getElem?_eq_getElem hi,hit])
        ·obtain ⟨i,hi,hit⟩:=List.getElem_of_mem ho;exact HO.out i o (by rw [HNO.out];exact hi) (by rw [List.getElem?_eq_getElem hi,hit])
        ·obtain ⟨i,hi,hit⟩:=List.getElem_of_mem hs;exact HA.out i s (by rw [HNS.out];exact hi) (by rw [List.getElem?_eq_getElem hi,hit])
       have HF:=hD hfin;clear hfin;go_wp2
       go_ret
       refine ⟨ret_bool ?_,B⟩
       rw [HF.out,Bool.eq_iff_iff,beq_iff_eq,decide_eq_true_iff];omega
end
section
open Go.RowKit L02 L13 L18 L20
theorem CheckR20_any (tv ov sv:Value) (m:Mo) (r:Int) (hr:r=chk m) (w:World) (h:Mod w tv ov sv m):
  Calls Try.prog 10 #[.agg #[tv,ov,sv]] w fun e w'=>e=.returned (.int .i64 r)∧Below w.heap.size w w':=by
 have B:=Below.refl w.heap.size w;have lt:=h.t.len;have lo:=h.o.len;have ls:=h.s.len;have lt':=h.t.len_le;have lo':=h.o.len_le;have hbig:8<m.types.length∨960<m.objs.length→r=4:=fun hm=>by rw [hr,chk_many hm]
 have hbad:¬(8<m.types.length∨960<m.objs.length)→¬MoOk m→r=8:=fun h1 h2=>by rw [hr,chk_bad h1 h2]
 have hgood:¬(8<m.types.length∨960<m.objs.length)→MoOk m→r=0:=fun h1 h2=>by rw [hr,chk_zero h1 h2]
 obtain ⟨z,hz⟩:=exq (decide (MoOk m))
 have VT:=hD (validR_any tv ov sv m z hz)
 obtain ⟨NT,hNT⟩:=exq m.types.length;obtain ⟨NO,hNO⟩:=exq m.objs.length;rw [←hNT] at lt lt' hbig hbad hgood;rw [←hNO] at lo lo' hbig hbad hgood;clear hr hNT hNO;by_cases h1:8<NT
 ·have hr4:=hbig (.inl h1)
  clear hbig hbad hgood h;subst hr4;go_in;go_wp2
  go_ret
  exact ⟨rfl,B.alloc B.size _⟩
 by_cases h2:960<NO
 ·have hr4:=hbig (.inr h2)
  clear hbig hbad hgood h;subst hr4;go_in;go_wp2
  go_ret
  exact ⟨rfl,B.alloc B.size _⟩
 have hnm:¬(8<NT∨960<NO):=by omega
 have hrr:r=if z=true then 0 else 8:=by
  by_cases hm:MoOk m
  ·rw [hgood hnm hm,hz,decide_eq_true hm];rfl
  ·rw [hbad hnm hm,hz,decide_eq_false hm];rfl
 have H:=hD h;clear hbig hbad hgood hnm hz h;cases z
 ·obtain rfl:r=8:=hrr;go_in;go_upto_region 1 with (fail)
  refine wpb1 (26) (#[tv,ov,sv]) ?_;rintro wa1 ⟨g1,b⟩
  replace B:=B.trans (b.mono B.size);clear b;replace c_g1:=g1.five;go_wp2_with fail;refine (VT.out _ (H.out.below B)).mono ?_;rintro e w2 ⟨rfl,b2⟩
  replace B:=B.trans (b2.mono B.size)
  clear b2;go_wp2
  go_ret
  exact ⟨rfl,B⟩
 ·obtain rfl:r=0:=hrr;go_in;go_upto_region 1 with (fail)
  refine wpb1 (26) (#[tv,ov,sv]) ?_;rintro wa1 ⟨g1,b⟩
  replace B:=B.trans (b.mono B.size);clear b;replace c_g1:=g1.five;go_wp2_with fail;refine (VT.out _ (H.out.below B)).mono ?_;rintro e w2 ⟨rfl,b2⟩
  replace B:=B.trans (b2.mono B.size)
  clear b2;go_wp2
  go_ret
  exact ⟨rfl,B⟩
end
section
open Go Go.RowKit
section
variable {P:Program} {ops:Array Oper} {md:Region.Mode} {C:Array Bool→World→Prop}
def uponF (P:Program) (Post:World→Prop) (v:Value):Result Next→Prop
 | .ok (.value u) w'=>u=v∧Post w'
 | .ok .skip w'=>v=undef∧Post w'
 | .ok (.enter f args) w'=>Calls P f args w' (fun e w''=>e=.returned v∧Post w'')
 | _=>False
def YieldsF (P:Program) (md:Region.Mode) (ops:Array Oper) (C:Array Bool→World→Prop) (i:Nat) (o:Oper) (v:Value) (a:Act):Prop:=
 (Region.wanted o (yielded ops a.tmps)=true∧∀listed w,i∈Region.ready md ops listed→C listed w→uponF P (C (listed.setIfInBounds i true)) v ((execOp a.eval o).run P w))∨
 (Region.wanted o (yielded ops a.tmps)=false∧v=undef∧∀listed w,i∈Region.ready md ops listed→C listed w→C (listed.setIfInBounds i true) w)
def qOpF (P:Program) (md:Region.Mode) (ops:Array Oper) (C:Array Bool→World→Prop) (i:Nat) (K:Act→Prop) (a:Act):Prop:=
 match ops[i]? with
 | none=>False
 | some o=>∃v,YieldsF P md ops C i o v a∧K (a.put o.dst v)
theorem qOpF_mono {i:Nat} {a:Act} {K K':Act→Prop} (h:∀a,K a→K' a) (hh:qOpF P md ops C i K a):qOpF P md ops C i K' a:=by
 unfold qOpF at *;split
 ·rename_i ho;simp only [ho] at hh
 ·rename_i o ho;simp only [ho] at hh;obtain ⟨v,h1,h2⟩:=hh;exact ⟨v,h1,h _ h2⟩
def wpAnyF (P:Program) (md:Region.Mode) (ops:Array Oper) (C:Array Bool→World→Prop) (Q:Array Bool→Act→Prop):Nat→Array Bool→Act→Prop
 | 0,listed,a=>Region.ready md ops listed=[]∧Q listed a
 | fuel+1,listed,a=>
  (Region.ready md ops listed=[]→Q listed a)∧
  ∀i∈Region.ready md ops listed,qOpF P md ops C i (wpAnyF P md ops C Q fuel (listed.setIfInBounds i true)) a
theorem wpOp_of_qOpF {i:Nat} {a:Act} {listed:Array Bool} {K:Act→Prop} {K':Act→World→Prop} {Q':Exit→Act→World→Prop} {w:World} (hl:i∈Region.ready md ops listed) (hC:C listed w)
  (h:∀a w',C (listed.setIfInBounds i true) w'→K a→K' a w') (hh:qOpF P md ops C i K a):wpOp P ops Q' i K' a w:=by
 unfold qOpF at hh;unfold wpOp;split
 ·rename_i ho;simp only [ho] at hh
 ·rename_i o ho;simp only [ho] at hh;obtain ⟨v,hy,h2⟩:=hh;rcases hy with ⟨hw,hv⟩ | ⟨hw,rfl,hv⟩
  ·rw [if_pos hw]
   left;have h3:=hv listed w hl hC;unfold Oper.wp
   generalize (execOp a.eval o).run P w=r at*
   cases r with
   | ok n w'=>
    cases n <;> simp only [uponF] at h3 <;> simp only [Oper.upon]
    case value u=>obtain ⟨e1,e2⟩:=h3;rw [e1];exact h _ _ e2 h2
    case skip=>obtain ⟨e1,e2⟩:=h3;rw [←e1];exact h _ _ e2 h2
    case enter f args=>exact h3.mono fun e w'' ⟨he,hw''⟩=>by subst he;exact h _ _ hw'' h2
   | halt x w'=>simp only [uponF] at h3
  ·rw [if_neg (by rw [hw];exact Bool.false_ne_true)]
   exact h _ _ (hv listed w hl hC) h2
theorem wpAny_of_F {Q:Array Bool→Act→Prop} {Q':Exit→Act→World→Prop} (hQ:∀listed a w,C listed w→Q listed a→Q' .normal a w):∀(fuel:Nat) (listed:Array Bool) (a:Act) (w:World),C listed w→
  wpAnyF P md ops C Q fuel listed a→wpAny P md ops Q' fuel listed a w
 | 0,_,_,_,hw,h=>⟨h.1,hQ _ _ _ hw h.2⟩
 | fuel+1,listed,_,_,hw,h=>⟨fun h0=>hQ _ _ _ hw (h.1 h0),fun i hi=>wpOp_of_qOpF hi hw (fun a' w' hw'=>wpAny_of_F hQ fuel _ a' w' hw') (h.2 i hi)⟩
theorem YieldsF.of_same {i:Nat} {o:Oper} {v:Value} {a a':Act} (hy:YieldsF P md ops C i o v a) (he:execOp a'.eval o=execOp a.eval o)
  (hw:Region.wanted o (yielded ops a'.tmps)=Region.wanted o (yielded ops a.tmps)):YieldsF P md ops C i o v a':=by
 unfold YieldsF at *;rw [he,hw]
 exact hy
theorem qOpF_put {i j:Nat} {oi oj:Oper} {v:Value} (hj:ops[j]?=some oj) (hap:oi.apart ops oj=true)
  (hsi:∀cs b,oi.op≠.select cs b) (hsj:∀cs b,oj.op≠.select cs b) {K:Act→Prop} {a:Act}
  (hy:YieldsF P md ops C i oi v a) (h:qOpF P md ops C j K (a.put oi.dst v)):
  qOpF P md ops C j (fun a'=>YieldsF P md ops C i oi v a'∧K (a'.put oi.dst v)) a:=by
 obtain ⟨h1,h2,h3⟩:=Oper.apart_spec hap;unfold qOpF at *;simp only [hj] at *;obtain ⟨u,hu,hn⟩:=h;refine ⟨u,hu.of_same ?_ ?_,hy.of_same ?_ ?_,?_⟩
 ·exact (execOp_put oj hsj a oi.dst v h1).symm
 ·exact (wanted_put oj a oi.dst v h1).symm
 ·exact execOp_put oi hsi a oj.dst u h3
 ·exact wanted_put oi a oj.dst u h3
 ·rw [←Act.put_comm a v u h2];exact hn
theorem wpAnyF_first {Q:Array Bool→Act→Prop} {i:Nat} {oi:Oper} {v:Value} (hi:ops[i]?=some oi) (hsel:∀(j:Nat) (o:Oper) cs b,ops[j]?=some o→o.op≠.select cs b):
  ∀(fuel:Nat) (listed:Array Bool) (a:Act),
   (∀j oj,ops[j]?=some oj→j≠i→listed.getD j true=false→(∀e∈oj.after,Region.binds md e=true→e.on≠i)→oi.apart ops oj=true)→
   i∈Region.ready md ops listed→YieldsF P md ops C i oi v a→
   wpAnyF P md ops C Q fuel (listed.setIfInBounds i true) (a.put oi.dst v)→wpAnyF P md ops C Q (fuel+1) listed a:=by
 intro fuel;induction fuel with
 | zero=>
  intro listed a _ hr hy H;refine ⟨fun h=>(by rw [h] at hr;cases hr),fun j hj=>?_⟩
  by_cases hji:j=i
  ·subst hji;unfold qOpF;simp only [hi]
   exact ⟨v,hy,H⟩
  ·have:=ready_mono hj hji;rw [H.1] at this;cases this
 | succ fuel ih=>
  intro listed a hfree hr hy H;refine ⟨fun h=>(by rw [h] at hr;cases hr),fun j hj=>?_⟩
  by_cases hji:j=i
  ·subst hji;unfold qOpF;simp only [hi]
   exact ⟨v,hy,H⟩
  ·have h1:=H.2 j (ready_mono hj hji)
   obtain ⟨hjun,oj,hoj,hall⟩:=mem_ready.1 hj;have hnot:∀e∈oj.after,Region.binds md e=true→e.on≠i:=fun e he hb heq=>by
    have h1:=hall e he hb;have h0:=(mem_ready.1 hr).1;rw [heq] at h1;rcases Nat.lt_or_ge i listed.size with h' | h'
    ·simp [h'] at h0 h1;rw [h0] at h1;cases h1
    ·simp [Array.getElem?_eq_none h'] at h1
   have h2:=qOpF_put hoj (hfree j oj hoj hji hjun hnot) (fun cs b=>hsel i oi cs b hi) (fun cs b=>hsel j oj cs b hoj) hy h1;have hfree':∀k ok,ops[k]?=some ok→k≠i→(listed.setIfInBounds j true).getD k true=false→
     (∀e∈ok.after,Region.binds md e=true→e.on≠i)→oi.apart ops ok=true:=fun k ok hk hki hun hno=>by
    refine hfree k ok hk hki ?_ hno;by_cases hjk:j=k
    ·subst hjk;exact hjun
    ·rw [getD_set_ne true hjk] at hun;exact hun
   refine qOpF_mono (fun a' h3=>ih (listed.setIfInBounds j true) a' hfree' (ready_mono hr (Ne.symm hji)) h3.1 ?_) h2;rw [Array.setIfInBounds_comm _ _ hji]
   exact h3.2
def wpF (P:Program) (md:Region.Mode) (ops:Array Oper) (C:Array Bool→World→Prop) (Q:Act→Prop):List Oper→Nat→Act→Prop
 | [],_,a=>Q a
 | o :: rest,k,a=>∃v,YieldsF P md ops C k o v a∧wpF P md ops C Q rest (k+1) (a.put o.dst v)
def setAll:Nat→Nat→Array Bool→Array Bool
 | 0,_,l=>l
 | n+1,k,l=>setAll n (k+1) (l.setIfInBounds k true)
theorem wpAnyF_lex {Q:Array Bool→Act→Prop} (hs:Region.noSelect ops=true):∀(l:List Oper) (k:Nat) (listed:Array Bool) (a:Act),(∀j,l[j]?=ops[k+j]?)→
  Region.lexFrom md ops l.length k listed=true→wpF P md ops C (Q (setAll l.length k listed)) l k a→wpAnyF P md ops C Q l.length listed a
 | [],_,_,_,_,hB,h=>⟨by simpa [Region.lexFrom] using hB,h⟩
 | o :: l,k,listed,a,hl,hB,h=>by
  have h0:ops[k]?=some o:=by simpa using (hl 0).symm
  simp only [List.length_cons,Region.lexFrom,Bool.and_eq_true] at hB;obtain ⟨⟨hr,hf⟩,hB'⟩:=hB;obtain ⟨v,hy,hK⟩:=h;exact wpAnyF_first h0 (Region.noSelect_spec hs) l.length listed a (Region.free_spec h0 hf) (by simpa using hr) hy
   (wpAnyF_lex hs l (k+1) _ _ (fun j=>by have:=hl (j+1);simpa [Nat.add_assoc,Nat.add_comm 1 j] using this) hB' hK)
theorem wp_region_F {id:Nat} {Q:Exit→Act→World→Prop} {a:Act} {w:World} {l:List Oper} (C:Array Bool→World→Prop) (hm:P.follows .mixedOrders=true) (hB:Region.lexB .any l.toArray=true)
  (hC:C (Array.replicate l.length false) { w with drawn:=w.drawn+1 })
  (h:wpF P .any l.toArray C (fun a'=>∀w',C (setAll l.length 0 (Array.replicate l.length false)) w'→Q .normal a' w') l 0 a):(Code.region id l.toArray true).wp P Q a w:=by
 simp only [Region.lexB,Bool.and_eq_true] at hB;refine wp_region_any hm (wpAny_of_F (C:=C) (Q:=fun listed a'=>∀w',C listed w'→Q .normal a' w') (fun _ _ w' hw' h=>h w' hw') _ _ _ _ (by simpa using hC) ?_)
 have:=wpAnyF_lex (C:=C) (md:=.any) (Q:=fun listed a'=>∀w',C listed w'→Q .normal a' w') hB.1 l 0 (Array.replicate l.length false) a (by simp) (by simpa using hB.2) h;simpa using this
end
/-! two flagged operations, numbers j1, j2 (a number that no operation bears: none) -/
def isV:Op→Bool
 | .move _ | .assign _ | .pick .. | .build .. | .load .. | .binOp .. | .unOp .. | .convert .. | .slice .. | .fieldAddr .. | .field .. | .indexAddr .. | .index .. | .extract .. | .sliceToArrayPointer ..=>true
 | _=>false
theorem run_v {P:Program} {s:Sem Value} {w w':World} {n:Next} (h:(do pure (Next.value (←s)):Sem Next).run P w=.ok n w'):∃u,n=.value u:=by
 rw [Sem.run_bind] at h;cases hs:s.run P w with
 | ok u w1=>rw [hs] at h;simp [Result.andThen] at h;exact ⟨u,h.1.symm⟩
 | halt x w1=>rw [hs] at h;simp [Result.andThen] at h
theorem isV_value {P:Program} {o:Oper} {ev:Operand→Value} {w w':World} {n:Next} (hV:isV o.op=true) (h:(execOp ev o).run P w=.ok n w'):∃u,n=.value u:=by
 unfold execOp at h;cases ho:o.op <;> rw [ho] at h hV <;> simp only [isV,Bool.false_eq_true] at hV <;> dsimp only at h;case move x=>simp at h;exact ⟨_,h.1.symm⟩
 case assign x=>simp at h;exact ⟨_,h.1.symm⟩
 case pick c x y=>
  rw [Sem.run_bind] at h;cases hs:(asBool (ev c)).run P w with
  | ok u w1=>rw [hs] at h;simp [Result.andThen] at h;exact ⟨_,h.1.symm⟩
  | halt x w1=>rw [hs] at h;simp [Result.andThen] at h
 all_goals exact run_v h
structure FX (F:Bool→Bool→World→Prop) where
 W:World
 h:∃b1 b2,F b1 b2 W
section
variable {P:Program} {ops:Array Oper} {rest:List Oper} {o:Oper} {a:Act} {Q:Act→Prop} {F:Bool→Bool→World→Prop} {j1 j2 k:Nat} {md:Region.Mode}
theorem ready_after {i j:Nat} {oi:Oper} {listed:Array Bool} (hi:ops[i]?=some oi) (hd:(oi.after.any fun e=>Region.binds md e && e.on==j)=true) (hr:i∈Region.ready md ops listed):listed.getD j false=true:=by
 obtain ⟨_,o',ho',hall⟩:=mem_ready.1 hr
 have:o'=oi:=Option.some.inj (ho'.symm.trans hi)
 subst this;obtain ⟨e,he,hb⟩:=Array.any_eq_true'.1 hd;simp only [Bool.and_eq_true,beq_iff_eq] at hb;rw [←hb.2];exact hall e he hb.1
structure FX1 (F:Bool→Bool→World→Prop) where
 W:World
 h:∃b2,F true b2 W
theorem getD_on {listed:Array Bool} {i:Nat} (h:listed.getD i true=false):listed.getD i false=false∧(listed.setIfInBounds i true).getD i false=true:=by
 rcases Nat.lt_or_ge i listed.size with h' | h'
 ·simp [h'] at h ⊢;exact h
 ·simp [Array.getElem?_eq_none h'] at h
end
def FNew (w0:World) (t:TypeId) (cs:Array Value):Bool→Bool→World→Prop:=fun b1 _ W=>Below w0.heap.size w0 W∧(b1=false→W.heap.size=w0.heap.size)∧(b1=true→Bx W w0.heap.size t cs)
theorem FNew.start (w0:World) (t:TypeId) (cs:Array Value):FNew w0 t cs false false w0.drew:=⟨(Below.refl _ _).drew,fun _=>rfl,(fun h=>by cases h)⟩
theorem FNew.below {w0:World} {t:TypeId} {cs:Array Value} (x:FX (FNew w0 t cs)):Below w0.heap.size w0 x.W:=by obtain ⟨W,b1,b2,h⟩:=x;exact h.1
instance (w0:World) (t:TypeId) (cs:Array Value):Nonempty (FX (FNew w0 t cs)):=⟨⟨w0.drew,false,false,FNew.start w0 t cs⟩⟩
instance (w0:World) (t:TypeId) (cs:Array Value):Nonempty (FX1 (FNew w0 t cs)):=⟨⟨w0.alloc (.cells cs t),false,(Below.refl _ _).alloc (Nat.le_refl _) _,(fun h=>by cases h),fun _=>Bx.new _ _ _⟩⟩
theorem FNew.call {P:Program} {f:FuncId} {av:Array Value} {w0:World} {t:TypeId} {cs:Array Value} {n c:Nat}
  (h:∀W,Calls P f av W (fun e w'=>e=.returned (.slice (some ⟨W.heap.size,0,none⟩) n c)∧Bx w' W.heap.size t cs∧Below W.heap.size W w')) (b2:Bool) (W:World) (hW:FNew w0 t cs false b2 W):
  Calls P f av W (fun e W'=>e=.returned (.slice (some ⟨w0.heap.size,0,none⟩) n c)∧FNew w0 t cs true b2 W'):=by
 have hz:=hW.2.1 rfl;refine (h W).mono fun e w' ⟨h1,h2,h3⟩=>?_;rw [hz] at h1 h2;exact ⟨h1,hW.1.trans (h3.mono (by rw [hz];exact Nat.le_refl _)),(fun h=>by cases h),fun _=>h2⟩
end
section
open Go Go.RowKit
def CN (F:(Nat→Bool)→World→Prop):Array Bool→World→Prop:=fun listed W=>F (fun j=>listed.getD j false) W
def Dep (F:(Nat→Bool)→World→Prop) (js:List Nat):Prop:=∀f g W,(∀j∈js,f j=g j)→F f W→F g W
structure FXN (F:(Nat→Bool)→World→Prop) where
 W:World
 h:∃f,F f W
section
variable {P:Program} {ops:Array Oper} {rest:List Oper} {o:Oper} {a:Act} {Q:Act→Prop} {F:(Nat→Bool)→World→Prop} {js:List Nat} {k:Nat} {md:Region.Mode}
theorem CN.skip (hD:Dep F js) (hk:k∉js) {listed:Array Bool} {W:World} (hW:CN F listed W):CN F (listed.setIfInBounds k true) W:=by
 refine hD _ _ _ (fun j hj=>?_) hW;have hne:k≠j:=fun e=>hk (e ▸ hj)
 rw [getD_set_ne false hne]
theorem wpN_read (hD:Dep F js) (hV:isV o.op=true) (hk:k∉js) (h:wpQuiet P ops (fun W=>∃x:FXN F,W=x.W) (fun a'=>wpF P md ops (CN F) Q rest (k+1) a') [o] a):wpF P md ops (CN F) Q (o :: rest) k a:=by
 unfold wpQuiet at h;split at h
 ·rename_i hw;obtain ⟨v,h1,h2⟩:=h;refine ⟨v,.inl ⟨hw,fun listed W hl hW=>?_⟩,h2⟩
  have h3:=h1 W ⟨⟨W,_,hW⟩,rfl⟩
  unfold Oper.quietAt at h3;cases hr:(execOp a.eval o).run P W with
  | ok n w'=>
   obtain ⟨u,rfl⟩:=isV_value hV hr;rw [hr] at h3;simp only [Oper.quietUpon] at h3;simp only [uponF]
   obtain ⟨e1,e2⟩:=h3;subst e1;exact ⟨e2,hW.skip hD hk⟩
  | halt x w'=>rw [hr] at h3;simp only [Oper.quietUpon] at h3
 ·rename_i hw;exact ⟨undef,.inr ⟨by simpa using hw,rfl,fun listed W hl hW=>hW.skip hD hk⟩,h⟩
end
theorem wp_region_N {P:Program} {id:Nat} {Q:Exit→Act→World→Prop} {a:Act} {w:World} {l:List Oper} (F:(Nat→Bool)→World→Prop) (js:List Nat) (hD:Dep F js) (hm:P.follows .mixedOrders=true) (hB:Region.lexB .any l.toArray=true)
  (hf:(js.all fun j=>(setAll l.length 0 (Array.replicate l.length false)).getD j false)=true)
  (hC:F (fun _=>false) w.drew)
  (h:wpF P .any l.toArray (CN F) (fun a'=>∀w',F (fun _=>true) w'→Q .normal a' w') l 0 a):(Code.region id l.toArray true).wp P Q a w:=by
 have e:∀j,(Array.replicate l.length false).getD j false=false:=fun j=>getD_replicate_false _ _;refine wp_region_F (CN F) hm hB ?_ ?_
 ·exact hD _ _ _ (fun j _=>(e j).symm) hC
 ·have e2:∀w',CN F (setAll l.length 0 (Array.replicate l.length false)) w'→F (fun _=>true) w':=fun w' h'=>hD _ _ _ (fun j hj=>by simpa using List.all_eq_true.1 hf j hj) h';have mono:∀(r:List Oper) (k:Nat) (a':Act),wpF P .any l.toArray (CN F) (fun a'=>∀w',F (fun _=>true) w'→Q .normal a' w') r k a'→wpF P .any l.toArray (CN F) (fun a'=>∀w',CN F (setAll l.length 0 (Array.replicate l.length false)) w'→Q .normal a' w') r k a':=by
   intro r;induction r with
   | nil=>intro k a' h0 w' h';exact h0 w' (e2 w' h')
   | cons o r ih=>intro k a' h0;obtain ⟨v,h1,h2⟩:=h0;exact ⟨v,h1,ih _ _ h2⟩
  exact mono l 0 a h
end
section
open Go Go.RowKit
structure Bk where
 g:Nat
 t:TypeId
 k:Nat
 old:Array Value
 new:Array Value
def FBx (w0:World) (B:Nat) (L:List Bk):(Nat→Bool)→World→Prop:=fun f W=>Below B w0 W∧∀p∈L,Bx W p.g p.t (if f p.k=true then p.new else p.old)
section
variable {w0:World} {B:Nat} {L:List Bk} {js:List Nat}
theorem FBx.dep (h:∀p∈L,p.k∈js):Dep (FBx w0 B L) js:=by
 rintro f g W hfg ⟨h1,h2⟩
 exact ⟨h1,fun p hp=>by rw [←hfg p.k (h p hp)];exact h2 p hp⟩
theorem FBx.start {W:World} (h1:Below B w0 W) (h2:∀p∈L,Bx W p.g p.t p.old):FBx w0 B L (fun _=>false) W.drew:=⟨h1.drew,fun p hp=>by rw [if_neg (by simp)];exact h2 p hp⟩
theorem FBx.done {W:World} (h:FBx w0 B L (fun _=>true) W):Below B w0 W∧∀p∈L,Bx W p.g p.t p.new:=⟨h.1,fun p hp=>by have:=h.2 p hp;rwa [if_pos rfl] at this⟩
theorem FBx.cell (p:Bk) (hp:p∈L) (he:p.old=p.new) (x:FXN (FBx w0 B L)) (i:Nat):x.W.cell? ⟨p.g,i,none⟩=p.old[i]?:=by
 obtain ⟨W,f,h⟩:=x
 have:=h.2 p hp;rw [←he] at this;split at this <;> exact this.cell i
theorem FBx.base (x:FXN (FBx w0 B L)):Below B w0 x.W:=by obtain ⟨W,f,h⟩:=x;exact h.1
variable {P:Program} {k:Nat}
end
section
variable {P:Program} {ops:Array Oper} {rest:List Oper} {o:Oper} {a:Act} {Q:Act→Prop} {F:(Nat→Bool)→World→Prop} {js:List Nat} {k:Nat} {md:Region.Mode}
end
theorem store_int {P:Program} {ty:TypeId} (hi:(P.info? ty).map (·.size)=some 1) (W:World) (ad:Addr) (u0:Value) (k:IntKind) (n:Int) (hc:W.cell? ad=some u0) (hf:W.frozen? ad=false):(Instr.storeAt ty (.pointer (some ad)) (.int k n)).run P W=.ok () (W.setCell ad (.int k n)):=by
 obtain ⟨i,hi',e⟩:=Option.map_eq_some_iff.1 hi;simp [go_sem,hc,hf,sizeOf,typeInfo,hi',e]
end
section
open Go Go.RowKit
section
variable {P:Program} {ops:Array Oper} {rest:List Oper} {o:Oper} {a:Act} {Q:Act→Prop} {F:(Nat→Bool)→World→Prop} {js:List Nat} {k:Nat} {md:Region.Mode}
theorem wpN_step (hD:Dep F js) (hi:ops[k]?=some o) (hw:Region.wanted o (yielded ops a.tmps)=true) {v:Value} (dep:List Nat) (hd:(dep.all fun j=>o.after.any fun e=>Region.binds md e && e.on==j)=true)
  (hs:∀f W,F f W→f k=false→(∀j∈dep,f j=true)→∃W',(execOp a.eval o).run P W=.ok (.value v) W'∧F (fun i=>i==k || f i) W') (h:wpF P md ops (CN F) Q rest (k+1) (a.put o.dst v)):wpF P md ops (CN F) Q (o :: rest) k a:=by
 refine ⟨v,.inl ⟨hw,fun listed W hl hW=>?_⟩,h⟩
 have hk:listed.getD k false=false:=by
  have h1:=(mem_ready.1 hl).1;rcases Nat.lt_or_ge k listed.size with h' | h'
  ·simp [h'] at h1 ⊢;exact h1
  ·simp [Array.getElem?_eq_none h'] at h1
 obtain ⟨W',h1,h2⟩:=hs _ W hW hk (fun j hj=>ready_after hi (List.all_eq_true.1 hd j hj) hl)
 rw [h1]
 refine ⟨rfl,hD _ _ _ (fun j hj=>?_) h2⟩
 by_cases hjk:j=k
 ·subst hjk;rw [(getD_on (mem_ready.1 hl).1).2];simp
 ·have hne:k≠j:=Ne.symm hjk;rw [getD_set_ne false hne];simp [hjk]
theorem run_append_rd {w:World} {t ty e B sz by_:Nat} {v lv z:Value} {n m:Nat} {xs ys:List Value} (ht:P.underlying t=some (.slice e))
  (hi:(P.info? e).map (fun i=>(i.zero,i.size,i.bytes))=some (some z,sz,by_)) (hzs:z.cells.size=sz) (hsz:0<sz)
  (hown:w.ownsRow B e sz v n xs) (hrd:Rd w sz lv m ys) (h1:∀u∈ys,u.oneCell'=true) (h63:n+m≤9223372036854775807) (hbytes:(n+m)*by_≤140737488355328) (hB:B≤w.heap.size):
  ∃v' w',(Builtin.append_ #[t,t] ty #[v,lv]).run P w=.ok v' w'∧w'.ownsRow B e sz v' (n+m) (xs++ys)∧w.grownBy w' v.ownBlock:=by
 obtain ⟨i,hi1,hi2,hi3,hi4⟩:=info3 hi;obtain ⟨A,c,rfl,s1,s2,s3,s4,s5⟩:=hrd;rcases A with _ | ad
 ·have hc:=s4 rfl;have hm:m=0:=by omega
  subst hc;subst hm;have hy:ys=[]:=List.eq_nil_of_length_eq_zero (by simpa using s3)
  subst hy;exact ⟨v,w,run_append_owned_none (P:=P) w B t ty e i sz ht hi1 v n xs hown,by simpa using hown,World.grownBy.refl w _⟩
 ·obtain ⟨b,q,sp⟩:=ad;have hcell:∀j u,ys[j]?=some u→w.cell? ((⟨b,q,sp⟩:Addr).add j)=some u:=by
   intro j u hu;have hm:0<m:=by
    rcases Nat.eq_zero_or_pos m with h0 | h0
    ·subst h0
     have:ys=[]:=List.eq_nil_of_length_eq_zero (by simpa using s3)
     subst this;simp at hu
    ·exact h0
   obtain ⟨p1,p2,p3⟩:=s5 hm _ rfl;simp at p1;subst p1;rw [show ((⟨b,q,none⟩:Addr).add j)=⟨b,q+j,none⟩ by unfold Addr.add;split <;> simp_all]
   exact p3 j u hu
  obtain ⟨v',w',hrun,r1,r2,_⟩:=run_append_own (P:=P) w B t ty e i z sz by_ ht hi1 hi2 hi3 hi4 hzs hsz v n xs hown ⟨b,q,sp⟩ m c ys s3 hcell h1 (by unfold maxLen;omega) hbytes hB;exact ⟨v',w',hrun,r1,r2⟩
end
def FCh (k1 k2 k3 k4:Nat) (W0 W1 W2 W3 W4:World):(Nat→Bool)→World→Prop:=fun f W=>
 (f k2=true→f k1=true)∧(f k3=true→f k2=true)∧(f k4=true→f k3=true)∧W=(if f k4=true then W4 else if f k3=true then W3 else if f k2=true then W2 else if f k1=true then W1 else W0)
section
variable {k1 k2 k3 k4:Nat} {W0 W1 W2 W3 W4:World}
theorem FCh.dep:Dep (FCh k1 k2 k3 k4 W0 W1 W2 W3 W4) [k1,k2,k3,k4]:=by
 rintro f g W hfg ⟨h1,h2,h3,h4⟩
 have e1:=hfg k1 (by simp);have e2:=hfg k2 (by simp);have e3:=hfg k3 (by simp);have e4:=hfg k4 (by simp)
 rw [e1,e2] at h1;rw [e2,e3] at h2;rw [e3,e4] at h3;rw [e1,e2,e3,e4] at h4;exact ⟨h1,h2,h3,h4⟩
theorem FCh.start:FCh k1 k2 k3 k4 W0 W1 W2 W3 W4 (fun _=>false) W0:=⟨by simp,by simp,by simp,by simp⟩
theorem FCh.done {W:World} (h:FCh k1 k2 k3 k4 W0 W1 W2 W3 W4 (fun _=>true) W):W=W4:=by have:=h.2.2.2;simpa using this
theorem no_of {b c:Bool} (h:b=true→c=true) (hc:c=false):b=false:=by cases b;rfl;rw [h rfl] at hc;cases hc
theorem FCh.s1 (hk:k1≠k2∧k1≠k3∧k1≠k4) {f:Nat→Bool} {W:World} (h:FCh k1 k2 k3 k4 W0 W1 W2 W3 W4 f W) (h0:f k1=false):W=W0∧FCh k1 k2 k3 k4 W0 W1 W2 W3 W4 (fun i=>i==k1 || f i) W1:=by
 obtain ⟨a1,a2,a3,a4⟩:=h;have b2:=no_of a1 h0;have b3:=no_of a2 b2;have b4:=no_of a3 b3;refine ⟨by rw [a4];simp [h0,b2,b3,b4],by simp,?_,?_,?_⟩
 ·simp only [b3,Bool.or_false];intro h;rw [beq_iff_eq] at h;exact absurd h.symm hk.2.1
 ·simp only [b4,Bool.or_false];intro h;rw [beq_iff_eq] at h;exact absurd h.symm hk.2.2
 ·have e2:(k2==k1)=false:=by rw [beq_eq_false_iff_ne];exact hk.1.symm
  have e3:(k3==k1)=false:=by rw [beq_eq_false_iff_ne];exact hk.2.1.symm
  have e4:(k4==k1)=false:=by rw [beq_eq_false_iff_ne];exact hk.2.2.symm
  simp [b2,b3,b4,e2,e3,e4]
theorem FCh.s2 (hk:k2≠k1∧k2≠k3∧k2≠k4) {f:Nat→Bool} {W:World} (h:FCh k1 k2 k3 k4 W0 W1 W2 W3 W4 f W) (h0:f k2=false) (h1:f k1=true):W=W1∧FCh k1 k2 k3 k4 W0 W1 W2 W3 W4 (fun i=>i==k2 || f i) W2:=by
 obtain ⟨a1,a2,a3,a4⟩:=h;have b3:=no_of a2 h0;have b4:=no_of a3 b3;have e1:(k1==k2)=false:=by rw [beq_eq_false_iff_ne];exact hk.1.symm
 have e3:(k3==k2)=false:=by rw [beq_eq_false_iff_ne];exact hk.2.1.symm
 have e4:(k4==k2)=false:=by rw [beq_eq_false_iff_ne];exact hk.2.2.symm
 exact ⟨by rw [a4];simp [h0,h1,b3,b4],by simp [h1],by simp,by simp [b4,e4],by simp [b3,b4,e3,e4]⟩
theorem FCh.s3 (hk:k3≠k1∧k3≠k2∧k3≠k4) {f:Nat→Bool} {W:World} (h:FCh k1 k2 k3 k4 W0 W1 W2 W3 W4 f W) (h0:f k3=false) (h1:f k2=true):W=W2∧FCh k1 k2 k3 k4 W0 W1 W2 W3 W4 (fun i=>i==k3 || f i) W3:=by
 obtain ⟨a1,a2,a3,a4⟩:=h;have b4:=no_of a3 h0;have e4:(k4==k3)=false:=by rw [beq_eq_false_iff_ne];exact hk.2.2.symm
 exact ⟨by rw [a4];simp [h0,h1,b4],by simp [a1 h1],by simp [h1],by simp,by simp [b4,e4]⟩
theorem FCh.s4 (hk:k4≠k1∧k4≠k2∧k4≠k3) {f:Nat→Bool} {W:World} (h:FCh k1 k2 k3 k4 W0 W1 W2 W3 W4 f W) (h0:f k4=false) (h1:f k3=true):W=W3∧FCh k1 k2 k3 k4 W0 W1 W2 W3 W4 (fun i=>i==k4 || f i) W4:=by
 obtain ⟨a1,a2,a3,a4⟩:=h;exact ⟨by rw [a4];simp [h0,h1],by simp [a1 (a2 h1)],by simp [a2 h1],by simp [h1],by simp⟩
end
def FC3 (k1 k2 k3:Nat) (W0 W1 W2 W3:World):(Nat→Bool)→World→Prop:=fun f W=>
 (f k2=true→f k1=true)∧(f k3=true→f k2=true)∧W=(if f k3=true then W3 else if f k2=true then W2 else if f k1=true then W1 else W0)
section
variable {k1 k2 k3:Nat} {W0 W1 W2 W3:World}
theorem FC3.dep:Dep (FC3 k1 k2 k3 W0 W1 W2 W3) [k1,k2,k3]:=by
 rintro f g W hfg ⟨h1,h2,h4⟩
 have e1:=hfg k1 (by simp);have e2:=hfg k2 (by simp);have e3:=hfg k3 (by simp)
 rw [e1,e2] at h1;rw [e2,e3] at h2;rw [e1,e2,e3] at h4;exact ⟨h1,h2,h4⟩
theorem FC3.start:FC3 k1 k2 k3 W0 W1 W2 W3 (fun _=>false) W0:=⟨by simp,by simp,by simp⟩
theorem FC3.done {W:World} (h:FC3 k1 k2 k3 W0 W1 W2 W3 (fun _=>true) W):W=W3:=by have:=h.2.2;simpa using this
theorem FC3.s1 (hk:k1≠k2∧k1≠k3) {f:Nat→Bool} {W:World} (h:FC3 k1 k2 k3 W0 W1 W2 W3 f W) (h0:f k1=false):W=W0∧FC3 k1 k2 k3 W0 W1 W2 W3 (fun i=>i==k1 || f i) W1:=by
 obtain ⟨a1,a2,a4⟩:=h;have b2:=no_of a1 h0;have b3:=no_of a2 b2;have e2:(k2==k1)=false:=by rw [beq_eq_false_iff_ne];exact hk.1.symm
 have e3:(k3==k1)=false:=by rw [beq_eq_false_iff_ne];exact hk.2.symm
 exact ⟨by rw [a4];simp [h0,b2,b3],by simp,by simp [b3,e3],by simp [b2,b3,e2,e3]⟩
theorem FC3.s2 (hk:k2≠k1∧k2≠k3) {f:Nat→Bool} {W:World} (h:FC3 k1 k2 k3 W0 W1 W2 W3 f W) (h0:f k2=false) (h1:f k1=true):W=W1∧FC3 k1 k2 k3 W0 W1 W2 W3 (fun i=>i==k2 || f i) W2:=by
 obtain ⟨a1,a2,a4⟩:=h;have b3:=no_of a2 h0;have e3:(k3==k2)=false:=by rw [beq_eq_false_iff_ne];exact hk.2.symm
 exact ⟨by rw [a4];simp [h0,h1,b3],by simp [h1],by simp,by simp [b3,e3]⟩
theorem FC3.s3 (hk:k3≠k1∧k3≠k2) {f:Nat→Bool} {W:World} (h:FC3 k1 k2 k3 W0 W1 W2 W3 f W) (h0:f k3=false) (h1:f k2=true):W=W2∧FC3 k1 k2 k3 W0 W1 W2 W3 (fun i=>i==k3 || f i) W3:=by
 obtain ⟨a1,a2,a4⟩:=h;exact ⟨by rw [a4];simp [h0,h1],by simp [a1 h1],by simp [h1],by simp⟩
end
end
section
open Go Go.RowKit
def FL (ks:List Nat) (Ws:Nat→World) (r m:Nat):(Nat→Bool)→World→Prop:=fun f W=>
 ∃d,d≤ks.length∧(∀i k,ks[i]?=some k→f k=decide (i<d))∧W=Ws d∧(m<d→f r=true)
section
variable {ks:List Nat} {Ws:Nat→World} {r m:Nat}
theorem FL.dep:Dep (FL ks Ws r m) (r :: ks):=by
 rintro f g W hfg ⟨d,h1,h2,h3,h4⟩
 refine ⟨d,h1,fun i k hk=>?_,h3,fun hm=>?_⟩
 ·rw [←hfg k (List.mem_cons_of_mem _ (List.mem_of_getElem? hk))];exact h2 i k hk
 ·rw [←hfg r List.mem_cons_self];exact h4 hm
theorem FL.start:FL ks Ws r m (fun _=>false) (Ws 0):=⟨0,Nat.zero_le _,fun i k _=>by simp,rfl,fun h=>by omega⟩
theorem FL.done {W:World} (h:FL ks Ws r m (fun _=>true) W):W=Ws ks.length:=by
 obtain ⟨d,h1,h2,h3,h4⟩:=h;rw [h3]
 congr 1;by_cases hd:d=ks.length
 ·exact hd
 ·have hlt:d<ks.length:=by omega
  have:=h2 d ks[d] (List.getElem?_eq_getElem hlt)
  simp at this
theorem FL.step {i k:Nat} (hk:ks[i]?=some k) (hn:ks.Nodup) {f:Nat→Bool} {W:World} (h:FL ks Ws r m f W) (h0:f k=false) (hp:∀p,i=p+1→∀k',ks[p]?=some k'→f k'=true) (hm:i=m→f r=true):
  W=Ws i∧FL ks Ws r m (fun j=>j==k || f j) (Ws (i+1)):=by
 obtain ⟨d,h1,h2,h3,h4⟩:=h;have hil:i<ks.length:=(List.getElem?_eq_some_iff.1 hk).1;have hd1:¬i<d:=by have:=h2 i k hk;rw [h0] at this;simpa using this.symm
 have hd2:i≤d:=by
  rcases i with _ | p
  ·omega
  ·have hp':ks[p]?=some ks[p]:=List.getElem?_eq_getElem (by omega)
   have e1:=hp p rfl _ hp';rw [h2 p _ hp'] at e1
   have:=of_decide_eq_true e1;omega
 obtain rfl:d=i:=by omega
 refine ⟨h3,d+1,by omega,fun j k' hk'=>?_,rfl,fun hmd=>?_⟩
 ·by_cases hj:j=d
  ·subst hj;rw [hk] at hk';injection hk' with hk';subst hk'
   simp
  ·have hne:k'≠k:=fun e=>by
    subst e;exact hj ((List.getElem?_inj (List.getElem?_eq_some_iff.1 hk').1 hn).1 (hk'.trans hk.symm))
   have e1:(k'==k)=false:=by rw [beq_eq_false_iff_ne];exact hne
   simp only [e1,Bool.false_or]
   rw [h2 j k' hk']
   have:(j<d)=(j<d+1):=by rw [eq_iff_iff];omega
   simp only [this]
 ·by_cases hmi:d=m
  ·simp [hm hmi]
  ·simp [h4 (by omega)]
theorem FL.prev {p q:Nat} {f:Nat→Bool} (hq:ks[p]?=some q) (h:f q=true):∀p',p+1=p'+1→∀k',ks[p']?=some k'→f k'=true:=by
 intro p' hp k' hk;obtain rfl:p=p':=by omega
 rw [hq] at hk;injection hk with hk;subst hk;exact h
theorem FL.read (hr:r∉ks) {f:Nat→Bool} {W:World} (h:FL ks Ws r m f W) (h0:f r=false):(∃d,d≤ks.length∧d≤m∧W=Ws d)∧FL ks Ws r m (fun j=>j==r || f j) W:=by
 obtain ⟨d,h1,h2,h3,h4⟩:=h;have hdm:d≤m:=by
  rcases Nat.lt_or_ge m d with h | h
  ·rw [h4 h] at h0;cases h0
  ·exact h
 refine ⟨⟨d,h1,hdm,h3⟩,d,h1,fun i k hk=>?_,h3,fun _=>by simp⟩
 have hne:(k==r)=false:=by rw [beq_eq_false_iff_ne];exact fun e=>hr (e ▸ List.mem_of_getElem? hk)
 simp only [hne,Bool.false_or]
 exact h2 i k hk
theorem FL.agree {Ws':Nat→World} {k0:Nat} (hk:ks[0]?=some k0) (h0:Ws 0=Ws' 0) {f:Nat→Bool} {W:World} (hf:f k0=false) (h:FL ks Ws r m f W):FL ks Ws' r m f W:=by
 obtain ⟨d,h1,h2,h3,h4⟩:=h
 have:=h2 0 k0 hk;rw [hf] at this;have hd:d=0:=by
  rcases Nat.eq_zero_or_pos d with h | h
  ·exact h
  ·rw [decide_eq_true h] at this;cases this
 subst hd;exact ⟨0,h1,h2,h3.trans h0,h4⟩
theorem FL.all {p:World→Prop} (h:∀d,d≤ks.length→p (Ws d)) (x:FXN (FL ks Ws r m)):p x.W:=by
 obtain ⟨W,f,d,h1,_,h3,_⟩:=x;subst h3;exact h d h1
end
section
variable {P:Program} {ops:Array Oper} {rest:List Oper} {o:Oper} {a:Act} {Q:Act→Prop} {F:(Nat→Bool)→World→Prop} {js:List Nat} {k:Nat} {md:Region.Mode}
theorem wpN_storeD (hD:Dep F js) (hi:ops[k]?=some o) (ty:TypeId) (px py:Operand) (ho:o.op=.store ty px py) (hw:Region.wanted o (yielded ops a.tmps)=true) {p u:Value} (hx:a.eval px=p) (hy:a.eval py=u) (dep:List Nat) (hd:(dep.all fun j=>o.after.any fun e=>Region.binds md e && e.on==j)=true)
  (hs:∀f W,F f W→f k=false→(∀j∈dep,f j=true)→∃W',(Instr.storeAt ty p u).run P W=.ok () W'∧F (fun i=>i==k || f i) W') (h:wpF P md ops (CN F) Q rest (k+1) (a.put o.dst undef)):wpF P md ops (CN F) Q (o :: rest) k a:=by
 refine ⟨undef,.inl ⟨hw,fun listed W hl hW=>?_⟩,h⟩
 have hk:listed.getD k false=false:=by
  have h1:=(mem_ready.1 hl).1;rcases Nat.lt_or_ge k listed.size with h' | h'
  ·simp [h'] at h1 ⊢;exact h1
  ·simp [Array.getElem?_eq_none h'] at h1
 obtain ⟨W',h1,h2⟩:=hs _ W hW hk (fun j hj=>ready_after hi (List.all_eq_true.1 hd j hj) hl)
 unfold execOp;simp only [ho,hx,hy,Sem.run_bind,h1,Result.andThen_ok,Sem.run_pure,uponF,true_and]
 refine hD _ _ _ (fun j hj=>?_) h2;by_cases hjk:j=k
 ·subst hjk;rw [(getD_on (mem_ready.1 hl).1).2];simp
 ·have hne:k≠j:=Ne.symm hjk;rw [getD_set_ne false hne];simp [hjk]
end
end
end Go.Proofs.Yteejianjjpdimaa
