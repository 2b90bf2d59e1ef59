/- Texts put together: WSort2c. -/
import Derived.Test.YtgfkglhelfkpoaaGreatRSB
import Derived.Deep.CutBlock
set_option maxRecDepth 100000
set_option maxHeartbeats 4000000
open Go.Lib (hid)
namespace Go.Proofs.YtgfkglhelfkpoaaGreat
section
open Go.RowKit Plain PSort
open Go.Sort (PermIn SortedIn SWO swp swp_permIn permIn_refl permIn_trans permIn_mono size_swp HoldsK grow)
section
variable {w0:World} {blk n' off:Nat} [Inhabited (TmS w0 blk n')] {d0:Array (TmS w0 blk n')}
def SymUpTo {w0:World} {blk n':Nat} [Inhabited (TmS w0 blk n')] (off:Nat) (d0:Array (TmS w0 blk n')) (cap N:Nat):Prop:=
 ∀ (a m b:Nat) (az mz bz:Int) (d:Array (TmS w0 blk n')) (w:World),az=a→mz=m→bz=b→d.size=d0.size→SW2 w0 blk n' off d w→a<m→m<b→b≤d.size→b - a≤N→SortedIn (ltOf cfS) a m d→SortedIn (ltOf cfS) m b d →
  Calls Tryz.prog 268 #[.slice (some ⟨blk,off,none⟩) d0.size cap,.int .i64 az,.int .i64 mz,.int .i64 bz,.func (.func 178) #[] #[]] w fun e w'=>e=.returned (.tuple #[])∧∃ d',SW2 w0 blk n' off d' w'∧PermIn a b d d'∧SortedIn (ltOf cfS) a b d'
theorem symGen_any (H:SortC off d0) (cap a m b:Nat) (az mz bz:Int) (ha:az=a) (hm:mz=m) (hb:bz=b) (d:Array (TmS w0 blk n')) (w:World) (hds:d.size=d0.size) (S:SW2 w0 blk n' off d w) (_ham:a<m) (_hmb:m<b) (hbn:b≤d.size) (h1:SortedIn (ltOf cfS) a m d) (h2:SortedIn (ltOf cfS) m b d) (hg1:a+1<m) (hg2:m+1<b) (N:Nat) (hN:b - a≤N+1) (hrec:SymUpTo off d0 cap N) :
  Calls Tryz.prog 268 #[.slice (some ⟨blk,off,none⟩) d.size cap,.int .i64 az,.int .i64 mz,.int .i64 bz,.func (.func 178) #[] #[]] w fun e w'=>e=.returned (.tuple #[])∧∃ d',SW2 w0 blk n' off d' w'∧PermIn a b d d'∧SortedIn (ltOf cfS) a b d':=by
 subst ha hm hb
 have mixed:Tryz.prog.follows .mixedOrders=true:=by kernel_rfl
 have hsz:=H.sz
 have hsz':d.size<4611686018427387904:=by omega
 have S0:=hid S
 have HDS:=hid hds
 have H1:=hid h1
 have H2:=hid h2
 clear S hds h1 h2
 have hq1:((m:Int) - (a:Int)==1)=false:=by simp;omega
 have hq2:((b:Int) - (m:Int)==1)=false:=by simp;omega
 obtain ⟨mid,hmid⟩:∃ mid:Nat,mid=(a+b) / 2:=⟨_,rfl⟩
 have hme:((a:Int)+(b:Int)) / 2=(mid:Int):=by omega
 have hmd1:2*mid≤a+b:=by omega
 have hmd2:a+b≤2*mid+1:=by omega
 have HREC:=hid hrec
 have HROT:Hid (∀ (x y z:Nat) (xz yz zz:Int) (wr:World),xz=x→yz=y→zz=z→SW2 w0 blk n' off d wr→x<y→y<z→z≤d.size →
   Calls Tryz.prog 282 #[.slice (some ⟨blk,off,none⟩) d.size cap,.int .i64 xz,.int .i64 yz,.int .i64 zz,.func (.func 178) #[] #[]] wr fun e w'=>e=.returned (.tuple #[])∧∃ d',SW2 w0 blk n' off d' w'∧PermIn x z d d'∧∀ t,d'[t]! = rotF (fun t=>d[t]!) x y z t):=
  fun x y z xz yz zz wr hx hy hz hS h1 h2 h3=>rotate_any H cap x y z xz yz zz hx hy hz d wr (HDS.out) hS h1 h2 h3
 clear hmid hrec
 go_enter Tryz.func268,Tryz.ntmps268
 go_upto_if 140 with fail
 go_cut [20,21] (fun s20 s21 wc=>∃ lo hi:Nat,s20=.int .i64 (lo:Int)∧s21=.int .i64 (hi:Int)∧a≤lo∧lo≤hi∧hi≤m∧hi≤mid∧mid+m≤b+lo∧Hid (lo=a∨mid+m=b+lo)∧Hid (hi=m∨hi=mid)∧w=wc)
 case first=>
  by_cases hmm:mid<m
  ·have hmz:(mid:Int)<(m:Int):=by omega
   go_wp2_with fail
   go_meet
   case rel=>exact ⟨mid+m - b,mid,by first | rfl | go_num | (congr 1;omega),rfl,by omega,by omega,by omega,by omega,by omega,.inr (by omega),.inr rfl,rfl⟩
  ·have hmz:¬ (mid:Int)<(m:Int):=by omega
   go_wp2_with fail
   go_meet
   case rel=>exact ⟨a,m,rfl,rfl,by omega,by omega,by omega,by omega,by omega,.inl rfl,.inl rfl,rfl⟩
 case rest=>
 obtain ⟨lo,hi,rfl,rfl,hlo,hlh,hhm,hhmid,hend,HLO,HHI,rfl⟩:=hcut
 have hwn:IntKind.i64.wrap ((mid:Int)+(m:Int) - 1)=(mid:Int)+(m:Int) - 1:=by rw [IntKind.wrap_i64];omega
 go_wp2
 go_loopg [20,21] hi (fun kx s20 s21 wr=>∃ (s r:Nat),s20=.int .i64 (s:Int)∧s21=.int .i64 (r:Int)∧lo≤s∧s≤r∧r≤hi∧r - s≤kx∧Hid (SW2 w0 blk n' off d wr)∧Hid (lo<s→ltOf cfS d[mid+m - s]! d[s - 1]! = false)∧Hid (r<hi→ltOf cfS d[mid+m - 1 - r]! d[r]! = true))
 case atStart=>exact ⟨lo,hi,rfl,rfl,by omega,by omega,by omega,by omega,S0,(fun h=>by omega),(fun h=>by omega)⟩
 case round=>
  clear S0
  obtain ⟨s,r,rfl,rfl,hls,hsr,hrh,hkx,S1,HL,HG⟩:=hrel
  by_cases hlt:s<r
  ·as_aux_lemma=>
   have hltz:(s:Int)<(r:Int):=by omega
   obtain ⟨c,hh⟩:∃ h:Nat,h=(s+r) / 2:=⟨_,rfl⟩
   have hce:((s:Int)+(r:Int)) / 2=(c:Int):=by omega
   have hi1:s≤c:=by omega
   have hj1:c<r:=by omega
   obtain ⟨p,hp⟩:∃ p:Nat,p=mid+m - 1 - c:=⟨_,rfl⟩
   have hpe:(mid:Int)+(m:Int) - 1 - (c:Int)=(p:Int):=by omega
   have hpd:p<d.size:=by omega
   have HPP:=hid hp
   clear hh hp
   cases hL:ltOf cfS d[p]! d[c]! with
   | false=>
    have ea1:((p:Int)).toNat=p:=by omega
    have pa1:(0:Int)≤(p:Int):=by omega
    have ba1:(p:Int)<(d.size:Int):=by omega
    have ra1:IntKind.i64.wrap ((p:Int))=(p:Int):=by rw [IntKind.wrap_i64];omega
    have ec1:((c:Int)).toNat=c:=by omega
    have pc1:(0:Int)≤(c:Int):=by omega
    have bc1:(c:Int)<(d.size:Int):=by omega
    have rc1:IntKind.i64.wrap ((c:Int))=(c:Int):=by rw [IntKind.wrap_i64];omega
    obtain ⟨A1,A1',c1,c1',v1,v1',z1,X1,hz1⟩:=tstF H S1.out (by have:=HDS.out;omega) (p) (c) (by omega) (by omega)
    have xa01:=X1.a0
    have xa11:=X1.a1
    have xb01:=X1.b0
    have xb11:=X1.b1
    have xc1:=X1.call
    have hv1:¬ z1<0:=by rw [hz1];exact of_decide_eq_false hL
    have hd1:decide (z1<0)=false:=decide_eq_false hv1
    clear hz1 X1
    go_wp2_with fail
    go_quiet_grown (first | (go_at_call 178;refine Calls.grown_of (xc1 _ _)))
    have S2:Hid (SW2 w0 blk n' off d (grow (wr.drewN nq) osq)):=S1.out.grown nq osq
    clear xa01 xa11 xb01 xb11 xc1 S1
    generalize grow (wr.drewN nq) osq=w2 at S2 ⊢
    clear nq osq
    have HL2:Hid (lo<c+1→ltOf cfS d[mid+m - (c+1)]! d[c+1 - 1]! = false):=fun _=>by rw [Nat.add_sub_cancel,show mid+m - (c+1)=p by have:=HPP.out;omega];exact hL
    go_wp2
    go_roundg (r - (c+1))
    case measure=>omega
    case rel=>exact ⟨c+1,r,by first | rfl | go_num,rfl,by omega,by omega,hrh,by omega,S2,HL2,HG⟩
   | true=>
    have ea2:((p:Int)).toNat=p:=by omega
    have pa2:(0:Int)≤(p:Int):=by omega
    have ba2:(p:Int)<(d.size:Int):=by omega
    have ra2:IntKind.i64.wrap ((p:Int))=(p:Int):=by rw [IntKind.wrap_i64];omega
    have ec2:((c:Int)).toNat=c:=by omega
    have pc2:(0:Int)≤(c:Int):=by omega
    have bc2:(c:Int)<(d.size:Int):=by omega
    have rc2:IntKind.i64.wrap ((c:Int))=(c:Int):=by rw [IntKind.wrap_i64];omega
    obtain ⟨A2,A2',c2,c2',v2,v2',z2,X2,hz2⟩:=tstF H S1.out (by have:=HDS.out;omega) (p) (c) (by omega) (by omega)
    have xa02:=X2.a0
    have xa12:=X2.a1
    have xb02:=X2.b0
    have xb12:=X2.b1
    have xc2:=X2.call
    have hv2:z2<0:=by rw [hz2];exact of_decide_eq_true hL
    have hd2:decide (z2<0)=true:=decide_eq_true hv2
    clear hz2 X2
    go_wp2_with fail
    go_quiet_grown (first | (go_at_call 178;refine Calls.grown_of (xc2 _ _)))
    have S2:Hid (SW2 w0 blk n' off d (grow (wr.drewN nq) osq)):=S1.out.grown nq osq
    clear xa02 xa12 xb02 xb12 xc2 S1
    generalize grow (wr.drewN nq) osq=w2 at S2 ⊢
    clear nq osq
    have HG2:Hid (c<hi→ltOf cfS d[mid+m - 1 - c]! d[c]! = true):=fun _=>by rw [←HPP.out];exact hL
    go_wp2
    go_roundg (c - s)
    case measure=>omega
    case rel=>exact ⟨s,c,rfl,rfl,hls,by omega,by omega,by omega,S2,HL,HG2⟩
  ·as_aux_lemma=>
   obtain rfl:s=r:=by omega
   obtain ⟨e,he⟩:∃ e:Nat,e=mid+m - s:=⟨_,rfl⟩
   have hee:(mid:Int)+(m:Int) - (s:Int)=(e:Int):=by omega
   have hes:e+s=mid+m:=by omega
   have hme1:m≤e:=by omega
   have heb:e≤b:=by omega
   have hmide:mid≤e:=by omega
   have hem:s+(e - m)=mid:=by omega
   have HX1:Hid (a<s→e<b→ltOf cfS d[e]! d[s - 1]! = false):=fun q1 q2=>by
    have h:=HL.out (by rcases HLO.out with h | h<;>omega)
    rw [he];exact h
   have HX2:Hid (m<e→s<m→ltOf cfS d[s]! d[e - 1]! = false):=fun q1 q2=>by
    have h:=HG.out (by rcases HHI.out with h | h<;>omega)
    have e2:e - 1=mid+m - 1 - s:=by omega
    rw [e2];exact le_of_lt swoS h
   have HMID:=hid hem
   have HES:=hid hes
   clear he hes hem HL HG
   have hseb:s≤mid:=by omega
   have hsm:s≤m:=by omega
   have has:a≤s:=by omega
   go_upto_region 39 with fail
   go_cut [185] (fun c wx=>c=.bool (decide (s<m∧m<e))∧wr=wx)
   case first=>
    by_cases hs1:s<m
    ·have hs1z:(s:Int)<(m:Int):=by omega
     by_cases hs2:m<e
     ·have hs2z:(m:Int)<(e:Int):=by omega
      go_wp2_with fail
      go_meet
      case rel=>exact ⟨by simp [hs1,hs2],rfl⟩
     ·have hs2z:¬ (m:Int)<(e:Int):=by omega
      go_wp2_with fail
      go_meet
      case rel=>exact ⟨by simp [hs2],rfl⟩
    ·have hs1z:¬ (s:Int)<(m:Int):=by omega
     have hs1b:decide ((s:Int)<(m:Int))=false:=by simp;omega
     go_wp2_with fail
     go_meet
     case rel=>exact ⟨by simp [hs1],rfl⟩
   case rest=>
   obtain ⟨rfl,rfl⟩:=hcut
   go_upto_if 185 with fail
   go_cut [] (fun wc=>∃ d1:Array (TmS w0 blk n'),Hid (SW2 w0 blk n' off d1 wc)∧Hid (d1.size=d.size)∧Hid (PermIn a b d d1)∧Hid (∀ t,d1[t]! = rotF (fun t=>d[t]!) s m e t))
   case first=>
    by_cases hs1:s<m
    ·by_cases hs2:m<e
     ·have hs2b:decide (s<m∧m<e)=true:=by simp [hs1,hs2]
      go_wp2_with fail
      refine (HROT.out s m e _ _ _ _ rfl rfl rfl S1.out hs1 hs2 (by omega)).mono ?_
      rintro e' w2 ⟨rfl,d1,hS,hP,hF⟩
      go_wp2_with fail
      go_meet
      case rel=>exact ⟨d1,hS,hP.1,permIn_mono _ _ s e _ _ (by omega) (by omega) (by omega) hP,hF⟩
     ·have hs2b:decide (s<m∧m<e)=false:=by simp [hs2]
      have HPR:Hid (PermIn a b d d):=permIn_refl _ _ _
      go_wp2_with fail
      go_meet
      case rel=>exact ⟨d,S1,rfl,HPR,by show ∀ t,_;rw [show e=m by omega,rotF_right];intro t;rfl⟩
    ·have hs1b:decide (s<m∧m<e)=false:=by simp [hs1]
     have HPR:Hid (PermIn a b d d):=permIn_refl _ _ _
     go_wp2_with fail
     go_meet
     case rel=>exact ⟨d,S1,rfl,HPR,by show ∀ t,_;rw [show s=m by omega,rotF_left];intro t;rfl⟩
   case rest=>
   as_aux_lemma=>
   obtain ⟨d1,S2,HD1,HP1,HF1⟩:=hcut
   obtain ⟨w1,rfl⟩:∃ x,x=wc:=⟨_,rfl⟩
   have HM:=hid (merge_halves swoS has hsm hme1 heb H1.out H2.out HX1.out HX2.out HF1.out)
   rw [HMID.out] at HM
   clear S1 HX1 HX2 HROT HF1
   go_upto_region 41 with fail
   go_cut [199] (fun c wx=>c=.bool (decide (a<s∧s<mid))∧w1=wx)
   case first=>
    by_cases hs1:a<s
    ·have hs1z:(a:Int)<(s:Int):=by omega
     by_cases hs2:s<mid
     ·have hs2z:(s:Int)<(mid:Int):=by omega
      go_wp2_with fail
      go_meet
      case rel=>exact ⟨by simp [hs1,hs2],rfl⟩
     ·have hs2z:¬ (s:Int)<(mid:Int):=by omega
      go_wp2_with fail
      go_meet
      case rel=>exact ⟨by simp [hs2],rfl⟩
    ·have hs1z:¬ (a:Int)<(s:Int):=by omega
     have hs1b:decide ((a:Int)<(s:Int))=false:=by simp;omega
     go_wp2_with fail
     go_meet
     case rel=>exact ⟨by simp [hs1],rfl⟩
   case rest=>
   obtain ⟨rfl,rfl⟩:=hcut
   go_upto_if 199 with fail
   go_cut [] (fun wc=>∃ d2:Array (TmS w0 blk n'),Hid (SW2 w0 blk n' off d2 wc)∧Hid (PermIn a mid d1 d2)∧Hid (SortedIn (ltOf cfS) a mid d2))
   case first=>
    have HPR:Hid (PermIn a mid d1 d1):=permIn_refl _ _ _
    by_cases hs1:a<s
    ·by_cases hs2:s<mid
     ·have hs2b:decide (a<s∧s<mid)=true:=by simp [hs1,hs2]
      have HC:=hid (HREC.out a s mid _ _ _ d1 _ rfl rfl rfl (HD1.out.trans HDS.out) S2.out hs1 hs2 (by rw [HD1.out];omega) (by omega) HM.out.1 HM.out.2.1)
      rw [←HDS.out] at HC
      go_wp2_with fail
      refine HC.out.mono ?_
      rintro e' w2 ⟨rfl,d2,hS,hP,hSo⟩
      go_wp2_with fail
      go_meet
      case rel=>exact ⟨d2,hS,hP,hSo⟩
     ·have hs2b:decide (a<s∧s<mid)=false:=by simp [hs2]
      have HSo:Hid (SortedIn (ltOf cfS) a mid d1):=by have:=HM.out.1;rw [show s=mid by omega] at this;exact this
      go_wp2_with fail
      go_meet
      case rel=>exact ⟨d1,S2,HPR,HSo⟩
    ·have hs1b:decide (a<s∧s<mid)=false:=by simp [hs1]
     have HSo:Hid (SortedIn (ltOf cfS) a mid d1):=by have:=HM.out.2.1;rw [show s=a by omega] at this;exact this
     go_wp2_with fail
     go_meet
     case rel=>exact ⟨d1,S2,HPR,HSo⟩
   case rest=>
   as_aux_lemma=>
   obtain ⟨d2,S3,HP2,HS2⟩:=hcut
   have HD2:Hid (d2.size=d.size):=HP2.out.1.trans HD1.out
   have hk2:Hid (∀ i,mid≤i→d2[i]! = d1[i]!):=fun i hi=>HP2.out.2.1 i (Or.inr hi)
   have HM3:Hid (SortedIn (ltOf cfS) mid e d2):=sorted_congr HM.out.2.2.1 fun i hi _=>hk2.out i hi
   have HM4:Hid (SortedIn (ltOf cfS) e b d2):=sorted_congr HM.out.2.2.2.1 fun i hi _=>hk2.out i (by omega)
   have HFIN:Hid (∀ d3:Array (TmS w0 blk n'),PermIn mid b d2 d3→SortedIn (ltOf cfS) mid b d3→PermIn a b d d3∧SortedIn (ltOf cfS) a b d3):=fun d3 hP3 hS3=>by
    have hb1:b≤d1.size:=by rw [HD1.out];exact hbn
    have hb2:b≤d2.size:=by rw [HD2.out];exact hbn
    refine ⟨permIn_trans _ _ _ _ _ HP1.out (permIn_trans _ _ _ _ _ (permIn_mono _ _ a mid a b (Nat.le_refl _) (by omega) hb1 HP2.out) (permIn_mono _ _ mid b a b (by omega) (Nat.le_refl _) hb2 hP3)), ?_⟩
    have hX:=cross_perm hb1 (by omega) (by omega) HM.out.2.2.2.2 HP2.out hP3
    exact sorted_join (sorted_congr HS2.out fun i _ hi=>hP3.2.1 i (Or.inl hi)) hS3 hX
   clear S2 HM HP1 HP2 HS2 hk2
   by_cases hs1:mid<e
   ·have hs1z:(mid:Int)<(e:Int):=by omega
    by_cases hs2:e<b
    ·have hs2z:(e:Int)<(b:Int):=by omega
     have hs2b:decide ((e:Int)<(b:Int))=true:=by simp;omega
     have HC:=hid (HREC.out mid e b _ _ _ d2 _ rfl rfl rfl (HD2.out.trans HDS.out) S3.out hs1 hs2 (by rw [HD2.out];omega) (by omega) HM3.out HM4.out)
     rw [←HDS.out] at HC
     go_wp2_with fail
     refine HC.out.mono ?_
     rintro e' w2 ⟨rfl,d3,hS,hP,hSo⟩
     have HE:Hid (∃ d',SW2 w0 blk n' off d' w2∧PermIn a b d d'∧SortedIn (ltOf cfS) a b d'):=⟨d3,hS,(HFIN.out d3 hP hSo).1,(HFIN.out d3 hP hSo).2⟩
     clear hS hP hSo
     go_wp2
     go_end0
     exact ⟨rfl,HE.out⟩
    ·have hs2z:¬ (e:Int)<(b:Int):=by omega
     have hs2b:decide ((e:Int)<(b:Int))=false:=by simp;omega
     have HE:Hid (∃ d',SW2 w0 blk n' off d' wc∧PermIn a b d d'∧SortedIn (ltOf cfS) a b d'):=by
      have hs:SortedIn (ltOf cfS) mid b d2:=by have:=HM3.out;rw [show e=b by omega] at this;exact this
      have:=HFIN.out d2 (permIn_refl _ _ _) hs
      exact ⟨d2,S3.out,this.1,this.2⟩
     go_wp2
     go_end0
     exact ⟨rfl,HE.out⟩
   ·have hs1z:¬ (mid:Int)<(e:Int):=by omega
    have hs1b:decide ((mid:Int)<(e:Int))=false:=by simp;omega
    have HE:Hid (∃ d',SW2 w0 blk n' off d' wc∧PermIn a b d d'∧SortedIn (ltOf cfS) a b d'):=by
     have hs:SortedIn (ltOf cfS) mid b d2:=by have:=HM4.out;rw [show e=mid by omega] at this;exact this
     have:=HFIN.out d2 (permIn_refl _ _ _) hs
     exact ⟨d2,S3.out,this.1,this.2⟩
    go_wp2
    go_end0
    exact ⟨rfl,HE.out⟩
theorem symMerge_any (H:SortC off d0) (cap:Nat):∀ N,SymUpTo off d0 cap N:=by
 intro N
 induction N with
 | zero=>intro a m b az mz bz d w _ _ _ _ _ h1 h2 _ h3;omega
 | succ N ih=>
  intro a m b az mz bz d w ha hm hb hds S ham hmb hbn hN h1 h2
  rw [←hds]
  by_cases e1:m=a+1
  ·exact symOneL_any H cap a m b az mz bz ha hm hb d w hds S ham hmb hbn h1 h2 e1
  ·by_cases e2:b=m+1
   ·exact symOneR_any H cap a m b az mz bz ha hm hb d w hds S ham hmb hbn h1 h2 e2 (by omega)
   ·exact symGen_any H cap a m b az mz bz ha hm hb d w hds S ham hmb hbn h1 h2 (by omega) (by omega) N hN ih
end
end
end Go.Proofs.YtgfkglhelfkpoaaGreat
