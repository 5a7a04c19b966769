/- Package octets: parts, Seal, Open; bytes.Clone. · octets.Open. · Rows that the program owns: append and copy, for any element type. (Lines of Rg0 and Rg2 of layer 24.) · string(b) of bytes in memory; catchmentlow.Equal, Again. · Package disk: how a disk lies in memory; New, may, power, Len, put. -/
import Derived.Test.YtkhcaclndepgbaaGreatZn01
import Derived.Maps.AppendAt
import Derived.Deep.Upon
import Derived.Lib.AppendZeros
import Derived.Deep.RegionLawGrows
import Derived.Laws.BytesArg
import Derived.Laws.IdiomStrings
import Derived.Lib.SliceRun
import Derived.Laws.Cover3
import Derived.Deep.MidRow
import Derived.Deep.WholeRow
import Derived.Deep.Cut
import Derived.Deep.RegionHeld3
set_option linter.unusedVariables false
set_option linter.unusedSimpArgs false
set_option maxRecDepth 100000
set_option maxHeartbeats 20000000
namespace Go.Proofs.YtkhcaclndepgbaaGreat
open Go.RowKit
theorem infoU8:(Tryz.prog.info? 5).map (fun i=>(i.zero,i.size,i.bytes))=some (some (.int .u8 0),1,1):=by kernel_rfl
theorem zrow_u8s (n:Nat):zrow n (.int .u8 0)=u8s n (fun _=>0):=by
 apply Array.ext
 ·simp [zrow,u8s]
 ·intro i h1 h2
  simp [zrow,u8s]
theorem parts_at {w:World} {b off cap:Nat} (hcap:128<=cap) (hN:cap<=9223372036854775807) :
  Calls Tryz.prog 163 #[.slice (some ⟨b,off,none⟩) 128 cap] w fun e w'=>e = .returned (.tuple #[.slice (some ⟨b,off,none⟩) 124 124,.slice (some ⟨b,off+124,none⟩) 4 4])/\Chg [] w w':=by
 have a1:(124:Int)<=(cap:Int):=by omega
 have a2:(128:Int)<=(cap:Int):=by omega
 go_enter Tryz.func163,Tryz.ntmps163;go_wp2_with fail
 go_region
 go_wp2
 go_ret2
 exact ⟨rfl,(Chg.refl _ _).drew⟩
def BytesIn (w:World) (a:Option Addr) (n cap:Nat) (f:Nat->Nat):Prop :=
 n<=cap/\cap<=maxLen/\(a=none->n=0/\cap=0)/\∀ b,a=some b->0<n->∃ k o,b=⟨k,o,none⟩/\BytesAt w k o n f
def preP (kind n:Nat) (f:Nat->Nat) (i:Nat):Nat:=if i=0 then kind else if i<1+n then f (i - 1) else 0
def sealP (kind n:Nat) (f:Nat->Nat):Nat->Nat:=putF (preP kind n f) 124 4 (sumB (preP kind n f) 124)
theorem seal_at {w:World} {a:Option Addr} {n cap:Nat} {f:Nat->Nat} (h:BytesIn w a n cap f) (hn:n<=123) (kind:Nat) (hk:kind<=255) :
  Calls Tryz.prog 121 #[.int .u8 (kind:Int),.slice a n cap] w fun e w'=>e = .returned (.tuple #[.slice (some ⟨w.heap.size,0,none⟩) 128 128,.int .i64 0]) /\
   w'.heap[w.heap.size]?=some (.cells (u8s 128 (sealP kind n f)) 5 (0,0))/\Chg [] w w':=by
 have hmk:∀ w:World,(Instr.makeSlice 22 (.int .i64 128) (.int .i64 128)).run Tryz.prog w = .ok (.slice (some ⟨w.heap.size,0,none⟩) 128 128) (w.alloc (.cells (zrow 128 (.int .u8 0)) 5)):=run_make1 (P:=Tryz.prog) 22 5 Tryz.underlying22 infoU8 rfl .i64 .i64 128 (by omega) (by omega);have z0:(zrow 128 (.int .u8 0))[0]?=some (.int .u8 0):=by simp [zrow]
 have H:=zh h;clear h;go_enter Tryz.func121,Tryz.ntmps121;go_wp2_with (refine wpList_copy_fn rfl (.tmp 17) (.tmp 18) 22 22 rfl 5 Tryz.underlying22 (by kernel_rfl) w.heap.size 1 127 127 a n cap rfl rfl 128 (fun i => .int .u8 ((if i=0 then kind else 0:Nat):Int)) 5 ?c1 n ?c2 (fun i => .int .u8 (f i:Int)) ?c3 ?c4 ?c5 ?_)
 case c1 =>
  rw [znb,zrow_u8s];have:=u8s_set (n:=128) (f:=fun _=>0) (i:=0) (v:=kind) (by omega);rw [this];rfl
 case c2 =>
  show n=min n 127
  omega
 case c3 =>
  intro hp;obtain ⟨_,_,h3,h4⟩:=H.out
  cases a with
  | none=>have:=(h3 rfl).1;omega
  | some q =>
   obtain ⟨k,o,rfl,hb⟩:=h4 q rfl hp;refine ⟨k,o,rfl,fun j hj=>?_⟩;have hb':=hb.chg ((Chg.refl [] w).alloc (.cells ((zrow 128 (.int .u8 0)).setIfInBounds 0 (.int .u8 (kind:Int))) 5)) (by simp);exact (hb' j hj).1
 case c4=>intro j _;rfl
 case c5=>omega
 intro w1 HB hC
 have hf:∀ i,i<128->preP kind n f i<=255:=fun i _=>by
  unfold preP
  split
  ·exact hk
  ·split
   ·obtain ⟨_,_,h3,h4⟩:=H.out
    cases a with
    | none=>have:=(h3 rfl).1;omega
    | some q =>
     obtain ⟨k,o,rfl,hb⟩:=h4 q rfl (by omega);exact (hb (i - 1) (by omega)).2
   ·omega
 have hB1:w1.heap[w.heap.size]?=some (.cells (u8s 128 (preP kind n f)) 5 (0,0)):=by
  rw [HB.out]
  have:fnRow 128 (laid (fun i => .int .u8 ((if i=0 then kind else 0:Nat):Int)) (fun i => .int .u8 (f i:Int)) 1 n)=u8s 128 (preP kind n f):=by
   unfold fnRow u8s;congr 1;funext i
   show laid _ _ 1 n (i:Nat)=Value.int .u8 ((preP kind n f (i:Nat):Nat):Int)
   unfold laid preP
   dsimp only
   by_cases e0:(i:Nat)=0
   ·rw [if_neg (by omega),if_pos e0,if_pos e0]
   ·by_cases e1:(i:Nat)<1+n
    ·rw [if_pos (by omega),if_neg e0,if_pos e1]
    ·rw [if_neg (by omega),if_neg e0,if_neg e0,if_neg e1]
  rw [this]
 have hC1:Chg [w.heap.size] w w1:=(((Chg.refl [w.heap.size] w).alloc _).trans hC);have Hf:=zh hf;have HB1:=zh hB1;have HC1:=zh hC1;clear hf hB1 hC1 HB hC z0 hmk;go_wp2_with fail;refine (parts_at (b:=w.heap.size) (off:=0) (cap:=128) (zLr _) (by omega)).mono ?_;rintro e w2 ⟨rfl,hC2⟩;have B2:=zh ((hC2.block w.heap.size (zhl HB1.out) (by simp)).trans HB1.out);have C2:=zh (HC1.out.then hC2 (by simp));clear hC2
 have hS:BytesAt w2 w.heap.size 0 124 (preP kind n f):=by
  have:=BytesAt.of_block B2.out Hf.out (off:=0) (n:=124) (by omega);simp only [Nat.zero_add] at this;exact this
 have hlt:=sumB_lt (preP kind n f) 124;have cS:=sum_at (cap:=124) hS (by omega);have hp:sealP kind n f=putF (preP kind n f) 124 4 (sumB (preP kind n f) 124):=rfl;generalize sumB (preP kind n f) 124=S at *;have Hp:=zh hp;clear hp hS;go_wp2_with fail;refine cS.mono ?_;rintro e w' ⟨rfl,rfl⟩;go_wp2_with fail;refine (put_at B2.out 124 4 4 0 4 S (by omega) (by omega) (by omega) (by omega) (by omega) (by rw [show (256:Nat) ^ 4=4294967296 by decide];omega)).mono ?_;rintro e w3 ⟨rfl,hB3,hC3⟩;have B3:=zh hB3;have C3:=zh (C2.out.trans hC3);clear hB3 hC3;go_wp2_with fail
 go_ret2
 refine ⟨rfl,?_,Chg.then (L:=[]) (Chg.refl [] w) C3.out (by simp)⟩;rw [B3.out,Hp.out]
theorem app_some' {w:World} {base e n:Nat} {v:Value} {xs:List Value} (h:w.ownsRow base e 1 v (0+n) ([]++xs)) (hn:0<n) :
  ∃ g cap cur,v = .slice (some ⟨g,0,none⟩) n cap/\base<=g/\w.heap[g]?=some (.cells cur e (0,0))/\n<=cap/\cap<=maxLen/\cur.size=cap*1/\cur.toList.take n=xs:=by
 rcases h.2 with ⟨_,h0⟩ | ⟨g,cap,cur,h1,h2,h3,h4,h5,h6,h7⟩
 ·omega
 ·refine ⟨g,cap,cur,?_,h2,h3,?_,h5,h6,?_⟩
  ·rw [h1,Nat.zero_add]
  ·omega
  ·simpa using h7
theorem bytes_append {w:World} {b off n:Nat} {f:Nat->Nat} (h:BytesAt w b off n f):∀ j u,((List.range n).map fun i=>Value.int .u8 (f i:Int))[j]?=some u->w.cell? ((⟨b,off,none⟩:Addr).add j)=some u:=by
 intro j u hj;simp only [List.getElem?_map] at hj;by_cases hlt:j<n
 ·simp [hlt] at hj
  subst hj;have e:(⟨b,off,none⟩:Addr).add j=⟨b,off+j,none⟩:=by unfold Addr.add;split <;> simp_all
  rw [e];exact (h j hlt).1
 ·simp [hlt] at hj
theorem bclone_at {w:World} {b off n cap:Nat} {f:Nat->Nat} (h:BytesAt w b off n f) (hn:n<=100000) (h0:0<n) :
  Calls Tryz.prog 190 #[.slice (some ⟨b,off,none⟩) n cap] w fun e w'=>∃ g c,e = .returned (.slice (some ⟨g,0,none⟩) n c)/\n<=c/\c<=maxLen/\w.heap.size<=g/\g<w'.heap.size/\BytesAt w' g 0 n f/\Chg [] w w':=by
 have hb2:=h.chg ((Chg.refl [] w).alloc (.cells #[] 5)) (by simp);have Hn:=zh (bytes_append hb2);have H:=zh h;obtain ⟨i0,hi,hz0,hz1,hz2⟩:=info_parts infoU8;have Hi:=zh hi;have he:=fun w:World=>Lib.run_eql_slice_nil (P:=Tryz.prog) w 22 5 (some ⟨b,off,none⟩) n cap 0 0 Tryz.underlying22;clear h hb2 hi;go_enter Tryz.func190,Tryz.ntmps190;go_wp2_with (at_builtin;refine wpList_append_own _ rfl _ _ 22 rfl w.heap.size 5 i0 (.int .u8 0) 1 1 Tryz.underlying22 Hi.out hz0 hz1 hz2 rfl (by decide) _ 0 [] rfl (World.ownsRow_made w #[] 0 (zLr _) (Nat.zero_le _) rfl) ⟨b,off,none⟩ n cap ((List.range n).map fun i=>Value.int .u8 (f i:Int)) rfl ?c0 Hn.out ?c1 ?c2 ?c3 ?c4 ?_)
 case c0=>simp
 case c1=>intro u hu;obtain ⟨a,_,rfl⟩:=List.mem_map.1 hu;rfl
 case c2=>unfold maxLen;omega
 case c3=>omega
 case c4=>simp
 intro v' w1 hown hgrow _;obtain ⟨g,c,cur,rfl,q1,q2,q3,q4,q5,q6⟩:=app_some' (n:=n) (xs:=(List.range n).map fun i=>Value.int .u8 (f i:Int)) (by rw [Nat.zero_add,List.nil_append];exact hown) h0;have HO:=zh (zA q2 q6);have HG:=zh hgrow;clear q2 q6 hown hgrow;go_wp2_with fail;go_ret;have hlt:=zhl HO.out.1;refine ⟨g,c,rfl,q3,q4,q1,hlt,fun i hi=>⟨?_,(H.out i hi).2⟩,?_⟩
 ·rw [zcb HO.out.1,Nat.zero_add]
  have:=congrArg (fun l=>l[i]?) HO.out.2;simp only [List.getElem?_take,if_pos hi,List.getElem?_map,List.getElem?_range hi,Option.map_some,Array.getElem?_toList] at this;exact this
 ·exact ((Chg.refl [] w).alloc _).grown HG.out (fun k hk => .inr (by simp [Value.ownBlock] at hk;omega))
theorem num_shift (f:Nat->Nat) (p:Nat):∀ k,num (fun i=>f (p+i)) 0 k=num f p k
 | 0=>rfl
 | k+1=>by unfold num;rw [num_shift f p k,Nat.zero_add]
def pageOK (f:Nat->Nat):Prop:=num f 124 4=sumB f 124
theorem open_len {w:World} {a:Option Addr} {n cap:Nat} (hn:n≠128) :
  Calls Tryz.prog 158 #[.slice a n cap] w fun e w'=>e = .returned (.tuple #[.int .u8 0,.slice none 0 0,.int .i64 10])/\w=w':=by
 have h:((n:Int) != 128)=true:=by simp;omega
 clear hn;go_enter Tryz.func158,Tryz.ntmps158;go_wp2_with fail
 go_ret3
 exact ⟨rfl,rfl⟩
section
variable {w:World} {b off cap:Nat} {f:Nat->Nat} (h:BytesAt w b off 128 f) (hcap:128<=cap) (hN:cap<=9223372036854775807)
include h hcap hN
theorem open_wrong (hp:¬ pageOK f) :
  Calls Tryz.prog 158 #[.slice (some ⟨b,off,none⟩) 128 cap] w fun e w'=>e = .returned (.tuple #[.int .u8 0,.slice none 0 0,.int .i64 10])/\Chg [] w w':=by
 have H:=zh h;have hs:=sumB_lt f 124;have hnl:num f 124 4<4294967296:=num_lt (k:=4) fun i hi=>(h (124+i) (by omega)).2
 have hne:((num f 124 4:Int) != (sumB f 124:Int))=true:=by
  simp;intro e;exact hp (by unfold pageOK;omega)
 clear h hp;go_enter Tryz.func158,Tryz.ntmps158;go_wp2_with fail;refine (parts_at hcap hN).mono ?_;rintro e w1 ⟨rfl,hC1⟩;have HC1:=zh hC1;have h1:=H.out.chg hC1 (by simp);have hS:BytesAt w1 b off 124 f:=fun i hi=>h1 i (by omega);have hG:=h1.sub (a:=124) (m:=4) (by omega);have cG:=get_num (cap:=4) hG (by omega) (by omega) (by omega) 0 4 (by omega) (by omega) (by omega);rw [num_shift] at cG;have cS:=sum_at (cap:=124) hS (by omega);generalize num f 124 4=X at *;generalize sumB f 124=Y at *;clear h1 hS hG hC1;go_wp2_with fail;refine cG.mono ?_;rintro e w' ⟨rfl,rfl⟩;go_wp2_with fail;refine cS.mono ?_;rintro e w' ⟨rfl,rfl⟩;go_wp2_with fail
 go_ret3
 exact ⟨rfl,HC1.out⟩
theorem open_right (hp:pageOK f) :
  Calls Tryz.prog 158 #[.slice (some ⟨b,off,none⟩) 128 cap] w fun e w'=>∃ g c,e = .returned (.tuple #[.int .u8 (f 0:Int),.slice (some ⟨g,0,none⟩) 123 c,.int .i64 0])/\123<=c/\c<=maxLen/\w.heap.size<=g/\g<w'.heap.size /\
   BytesAt w' g 0 123 (fun i=>f (1+i))/\Chg [] w w':=by
 have H:=zh h;have hs:=sumB_lt f 124;have Hp:=zh hp;clear h hp;go_enter Tryz.func158,Tryz.ntmps158;go_wp2_with fail;refine (parts_at hcap hN).mono ?_;rintro e w1 ⟨rfl,hC1⟩;have HC1:=zh hC1;have h1:=H.out.chg hC1 (by simp);have H1:=zh h1;have hS:BytesAt w1 b off 124 f:=fun i hi=>h1 i (by omega);have hG:=h1.sub (a:=124) (m:=4) (by omega);have cG:=get_num (cap:=4) hG (by omega) (by omega) (by omega) 0 4 (by omega) (by omega) (by omega);rw [num_shift,show num f 124 4=sumB f 124 from Hp.out] at cG;have cS:=sum_at (cap:=124) hS (by omega);generalize sumB f 124=Y at *;clear h1 hS hG hC1;go_wp2_with fail;refine cG.mono ?_;rintro e w' ⟨rfl,rfl⟩;go_wp2_with fail;refine cS.mono ?_;rintro e w' ⟨rfl,rfl⟩;have h1d:=H1.out.chg (Chg.drew (Chg.refl [] _)) (by simp);have hcl:=zh (h1d.sub (a:=1) (m:=123) (by omega));have x0:=(H1.out 0 (by omega)).1;rw [Nat.add_zero] at x0;have lb:=World.block_lt_of_cell? _ _ x0;clear h1d cG cS;go_wp2_with fail
 go_region_with (go_at_call 190;refine (bclone_at (cap:=123) hcl.out (by omega) (by omega)).mono ?_;rintro e w2 ⟨g,c,rfl,r1,r2,r3,r4,r5,r6⟩;have x2:=(r6.cell (p:=⟨b,off,none⟩) lb (by simp)).trans x0;have R5:=zh r5;have R6:=zh r6;clear r5 r6)
 all_goals
  go_wp2_with fail
  go_ret3
  exact ⟨g,c,rfl,r1,r2,zLt HC1.out.size r3,r4,R5.out,HC1.out.trans ((Chg.drew (Chg.refl [] _)).trans R6.out)⟩
end
theorem zoc {w w':World} {base n size:Nat} {e:TypeId} {v:Value} {xs:List Value} {L:List Nat} (h:w.ownsRow base e size v n xs) (c:Chg L w w') (hL:∀ k,v.ownBlock=some k->k∉L):w'.ownsRow base e size v n xs:=by
 refine ⟨h.1,?_⟩;rcases h.2 with h' | ⟨g,cap,cur,rfl,hb,hg,r⟩
 ·exact .inl h'
 ·exact .inr ⟨g,cap,cur,rfl,hb,(c.block g (zhl hg) (hL g rfl)).trans hg,r⟩
theorem zol {w:World} {base n size:Nat} {e:TypeId} {v:Value} {xs:List Value} (h:w.ownsRow base e size v n xs) (hn:0<n):∃ g c,v = .slice (some ⟨g,0,none⟩) n c/\n<=c/\c<=maxLen/\base<=g/\g<w.heap.size/\∀ j,j<n*size->w.cell? ⟨g,j,none⟩=xs[j]?:=by
 rcases h.2 with ⟨_,h0⟩ | ⟨g,c,cur,rfl,hb,hg,r1,r2,r3,r4⟩
 ·omega
 ·refine ⟨g,c,rfl,r1,r2,hb,zhl hg,fun j hj=>?_⟩
  rw [zcb hg,<- r4,List.getElem?_take_of_lt hj,Array.getElem?_toList]
theorem zos {w:World} {base n size:Nat} {e:TypeId} {v:Value} {xs:List Value} (h:w.ownsRow base e size v n xs):∃ a c,v = .slice a n c/\n<=c/\c<=maxLen:=by
 rcases h.2 with ⟨rfl,h0⟩ | ⟨g,c,cur,rfl,hb,hg,r1,r2,_⟩
 ·exact ⟨none,0,by rw [h0],by omega,by unfold maxLen;omega⟩
 ·exact ⟨_,c,rfl,r1,r2⟩
theorem ownRow_block {w w':World} {base n size:Nat} {e:TypeId} {v:Value} {xs:List Value} (h:w.ownsRow base e size v n xs) (c:∀ k,v.ownBlock=some k->w'.heap[k]?=w.heap[k]?):w'.ownsRow base e size v n xs:=by
 refine ⟨h.1,?_⟩;rcases h.2 with h' | ⟨g,cap,cur,rfl,hb,hg,r⟩
 ·exact .inl h'
 ·exact .inr ⟨g,cap,cur,rfl,hb,(c g rfl).trans hg,r⟩
theorem row_zero {w:World} {base size:Nat} {e:TypeId} : w.ownsRow base e size (.slice none 0 0) 0 []:=⟨by simp,.inl ⟨rfl,rfl⟩⟩
theorem row_ne {w:World} {base n size p:Nat} {e:TypeId} {v:Value} {xs:List Value} {T:TypeId} {ps:Array Value} (h:w.ownsRow base e size v n xs) (hp:w.heap[p]?=some (.cells ps T (0,0))) (hT:e≠T):v.ownBlock≠some p:=by
 rcases h.2 with ⟨rfl,_⟩ | ⟨g,c,cur,rfl,_,hg,_⟩
 ·intro h;cases h
 ·intro e'
  have:g=p:=by simpa [Value.ownBlock] using e'
  subst this;rw [hg] at hp;injection hp with hp;injection hp with _ hp;exact hT hp
def AppSrc (w:World) (size:Nat) (x:Value) (m:Nat) (news:List Value):Prop :=
 news.length=m*size/\(∀ u,u∈news->u.oneCell'=true) /\
 ((∃ g o c,x = .slice (some ⟨g,o,none⟩) m c/\g<w.heap.size/\∀ j u,news[j]?=some u->w.cell? ⟨g,o+j,none⟩=some u)∨(∃ c,x = .slice none 0 c/\m=0))
theorem AppSrc.chg {L:List Nat} {w w':World} {size m:Nat} {x:Value} {news:List Value} (h:AppSrc w size x m news) (c:Chg L w w') (hL:∀ g,x.ownBlock=some g->g∉L):AppSrc w' size x m news:=by
 obtain ⟨h1,h2,h3⟩:=h;refine ⟨h1,h2,?_⟩;rcases h3 with ⟨g,o,k,rfl,hg,hc⟩ | h3
 ·exact .inl ⟨g,o,k,rfl,zLl hg c.size,fun j u hu=>(c.cell (p:=⟨g,o+j,none⟩) hg (hL g rfl)).trans (hc j u hu)⟩
 ·exact .inr h3
theorem AppSrc.own {w:World} {base size n:Nat} {e:TypeId} {v:Value} {xs:List Value} (h:w.ownsRow base e size v n xs) (h1:∀ u,u∈xs->u.oneCell'=true):AppSrc w size v n xs:=by
 refine ⟨h.1,h1,?_⟩;rcases h.2 with ⟨rfl,rfl⟩ | ⟨g,c,cur,rfl,hb,hg,r1,r2,r3,r4⟩
 ·exact .inr ⟨0,rfl,rfl⟩
 ·refine .inl ⟨g,0,c,rfl,zhl hg,fun j u hu=>?_⟩
  have hj:j<n*size:=by
   have:=(List.getElem?_eq_some_iff.1 hu).1;rw [h.1] at this;exact this
  rw [Nat.zero_add,zcb hg,<- hu,<- r4,List.getElem?_take_of_lt hj,Array.getElem?_toList]
theorem AppSrc.blk {w:World} {size m c b:Nat} {cs:Array Value} {e:TypeId} (h:w.heap[b]?=some (.cells cs e (0,0))) (hn:cs.size=m*size) (h1:∀ u,u∈cs.toList->u.oneCell'=true):AppSrc w size (.slice (some ⟨b,0,none⟩) m c) m cs.toList:=by
 refine ⟨by simpa using hn,h1,.inl ⟨b,0,c,rfl,zhl h,fun j u hu=>?_⟩⟩;rw [Nat.zero_add,zcb h,<- hu,Array.getElem?_toList]
theorem run_app {w:World} {base size n m bytes:Nat} {t e:TypeId} {z v x:Value} {xs news:List Value} (ht:Tryz.prog.underlying t=some (.slice e)) (hinfo:(Tryz.prog.info? e).map (fun i=>(i.zero,i.size,i.bytes))=some (some z,size,bytes)) (hzs:z.cells.size=size) (hsz:0<size) (hby:bytes<=1000)
  (hown:w.ownsRow base e size v n xs) (hs:AppSrc w size x m news) (hnm:n+m<=3000000) (hbase:base<=w.heap.size) :
  ∃ v' w',(Builtin.append_ #[t,t] t #[v,x]).run Tryz.prog w = .ok v' w'/\w'.ownsRow base e size v' (n+m) (xs++news)/\w.grownBy w' v.ownBlock/\(v'.ownBlock=v.ownBlock∨v'.ownBlock=some w.heap.size):=by
 obtain ⟨i,h1,h2,h3,h4⟩:=info_parts hinfo;obtain ⟨s1,s2,s3⟩:=hs;rcases s3 with ⟨g,o,c,rfl,hg,hc⟩ | ⟨c,rfl,rfl⟩
 ·obtain ⟨v',w',hr,ho,hgr,_,hob⟩:=run_append_own_at (P:=Tryz.prog) w base t t e i z size bytes ht h1 h2 h3 h4 hzs hsz v n xs hown ⟨g,o,none⟩ m c news s1 (fun j u hu=>by have e:Addr.add ⟨g,o,none⟩ j=⟨g,o+j,none⟩:=(by unfold Addr.add;split <;> simp [*]);rw [e];exact hc j u hu) s2 (by unfold maxLen;omega) (by
   have:(n+m)*bytes<=3000000*1000:=Nat.mul_le_mul hnm hby;omega) hbase
  exact ⟨v',w',hr,ho,hgr,hob⟩
 ·have hn:news=[]:=List.eq_nil_of_length_eq_zero (by simpa using s1)
  subst hn;obtain ⟨a,k,hv,hk,_⟩:=zos hown;rw [hv];refine ⟨_,w,run_append_nothing w t t t e i ht h1 a n k hk _ (Src.ofNil w ht c),?_,⟨rfl,rfl,rfl,zLr _,fun _ _ _=>rfl⟩,.inl rfl⟩;rw [List.append_nil,<- hv];exact hown
theorem step_app {ops:Array Oper} {o:Oper} {a:Act} {w:World} {K:Act->World->Prop} {Q:Exit->Act->World->Prop} {E:Prop} (hg:o.guard=none) (s x:Operand) (t:TypeId)
  (hop:o.op = .call { callee := .builtin .append,args:=#[s,x],argTypes:=#[t,t] }) (hty:o.type=t) {base size n m bytes:Nat} {e:TypeId} {z v xv:Value} {xs news:List Value}
  (ht:Tryz.prog.underlying t=some (.slice e)) (hinfo:(Tryz.prog.info? e).map (fun i=>(i.zero,i.size,i.bytes))=some (some z,size,bytes)) (hzs:z.cells.size=size) (hsz:0<size) (hby:bytes<=1000)
  (hs:a.eval s=v) (hx:a.eval x=xv) (hown:w.ownsRow base e size v n xs) (hsrc:AppSrc w size xv m news) (hnm:n+m<=3000000) (hbase:base<=w.heap.size)
  (hK:∀ v' w',w'.ownsRow base e size v' (n+m) (xs++news)->w.grownBy w' v.ownBlock->(v'.ownBlock=v.ownBlock∨v'.ownBlock=some w.heap.size)->K (a.put o.dst v') w') :
  if Region.wanted o (yielded ops a.tmps)=true then Oper.wp Tryz.prog o a w K Q else E:=by
 have hw:Region.wanted o (yielded ops a.tmps)=true:=by simp [Region.wanted,hg]
 rw [if_pos hw];obtain ⟨v',w',hrun,r1,r2,r3⟩:=run_app ht hinfo hzs hsz hby hown hsrc hnm hbase;unfold Oper.wp;simp [execOp,hop,resolve,invoke,builtin,hs,hx,hty,hrun,Result.andThen];exact hK _ _ r1 r2 r3
theorem own_emptyG {w:World} {base size:Nat} {e:TypeId} (h:base<=w.heap.size):(w.alloc (.cells #[] e)).ownsRow base e size (.slice (some ⟨w.heap.size,0,none⟩) 0 0) 0 [] :=
 ⟨by simp,.inr ⟨w.heap.size,0,#[],rfl,h,znb w _,Nat.zero_le _,by unfold maxLen;omega,by simp,by simp⟩⟩
theorem run_copy_fn {P:Program} {w:World} (dT sT ty elem:TypeId) (hu:P.underlying dT=some (.slice elem)) (hsz:(P.info? elem).map (·.size)=some 1)
  (g off dLen dCap b q sLen sCap N:Nat) (V S:Nat->Value) (t:TypeId) (hg:w.heap[g]?=some (.cells (fnRow N V) t (0,0))) (m:Nat) (hm:m=Nat.min sLen dLen)
  (hc:∀ j,j<m->w.cell? ⟨b,q+j,none⟩=some (S j)) (h1:∀ j,j<m->(S j).oneCell'=true) (hfit:off+m<=N) :
  ∃ w',(Builtin.copy_ #[dT,sT] ty #[.slice (some ⟨g,off,none⟩) dLen dCap,.slice (some ⟨b,q,none⟩) sLen sCap]).run P w = .ok (goInt m) w'/\w'.heap[g]?=some (.cells (fnRow N (laid V S off m)) t (0,0))/\Chg [g] w w':=by
 have hl:((List.range m).map S).length=m:=by simp
 have hrun:=run_copy_row (P:=P) w dT sT ty elem g off dLen dCap ⟨b,q,none⟩ sLen sCap (fnRow N V) t ((List.range m).map S) hu hsz hg (by rw [hl,hm])
   (fun j v hj=>by
    simp only [List.getElem?_map] at hj;by_cases hlt:j<m
    ·simp [hlt] at hj
     subst hj;have e:(⟨b,q,none⟩:Addr).add j=⟨b,q+j,none⟩:=by unfold Addr.add;split <;> simp_all
     rw [e];exact hc j hlt
    ·simp [hlt] at hj)
   (by rw [hl];simp [fnRow];exact hfit)
   (fun v hv=>by obtain ⟨j,hj,rfl⟩:=List.mem_map.1 hv;exact h1 j (by simpa using hj))
 rw [hl] at hrun;refine ⟨_,hrun,?_,⟨rfl,rfl,rfl,by simp [World.setRow],fun k hk hn=>setRow_other w g k _ (by simpa using hn)⟩⟩;have hr:=laid_row V S hfit;rw [hl] at hr;rw [show ((fnRow N V).toList.take off++List.map S (List.range m)++(fnRow N V).toList.drop (off+m))=((fnRow N V).toList.take off++(List.map S (List.range m)++(fnRow N V).toList.drop (off+m))) from List.append_assoc _ _ _,hr];exact setRow_heap w g _ _ t _ hg
theorem step_copy {ops:Array Oper} {o:Oper} {a:Act} {w:World} {K:Act->World->Prop} {Q:Exit->Act->World->Prop} {E:Prop} (hg:o.guard=none) (d s:Operand) (dT sT:TypeId)
  (hop:o.op = .call { callee := .builtin .copy,args:=#[d,s],argTypes:=#[dT,sT] }) (elem:TypeId) (hu:Tryz.prog.underlying dT=some (.slice elem)) (hsz:(Tryz.prog.info? elem).map (·.size)=some 1)
  (g off dLen dCap b q sLen sCap N:Nat) (V S:Nat->Value) (t:TypeId) (hd:a.eval d = .slice (some ⟨g,off,none⟩) dLen dCap) (hs:a.eval s = .slice (some ⟨b,q,none⟩) sLen sCap) (hgb:w.heap[g]?=some (.cells (fnRow N V) t (0,0))) (m:Nat) (hm:m=Nat.min sLen dLen)
  (hc:∀ j,j<m->w.cell? ⟨b,q+j,none⟩=some (S j)) (h1:∀ j,j<m->(S j).oneCell'=true) (hfit:off+m<=N)
  (hK:∀ w',w'.heap[g]?=some (.cells (fnRow N (laid V S off m)) t (0,0))->Chg [g] w w'->K (a.put o.dst (goInt m)) w') :
  if Region.wanted o (yielded ops a.tmps)=true then Oper.wp Tryz.prog o a w K Q else E:=by
 have hw:Region.wanted o (yielded ops a.tmps)=true:=by simp [Region.wanted,hg]
 rw [if_pos hw];obtain ⟨w',hrun,r1,r2⟩:=run_copy_fn (P:=Tryz.prog) (w:=w) dT sT o.type elem hu hsz g off dLen dCap b q sLen sCap N V S t hgb m hm hc h1 hfit;unfold Oper.wp;simp [execOp,hop,resolve,invoke,builtin,hd,hs,hrun,Result.andThen];exact hK _ r1 r2
def bstr (n:Nat) (f:Nat->Nat):ByteArray:=strOfNums ((List.range n).map fun i=>(f i:Int))
def eqF (n m:Nat) (f g:Nat->Nat):Bool:=decide (n=m)&&(List.range n).all fun i=>decide (f i=g i)
theorem eqF_iff {n m:Nat} {f g:Nat->Nat} : eqF n m f g=true↔n=m/\∀ i,i<n->f i=g i:=by
 simp [eqF]
theorem bstr_toList (n:Nat) (f:Nat->Nat):(bstr n f).toList=(List.range n).map fun i=>UInt8.ofNat (f i):=by
 rw [ByteArray.toList_eq];unfold bstr;rw [strOfNums_data,List.map_map];rfl
theorem bstr_beq {n m:Nat} {f g:Nat->Nat} (hf:∀ i,i<n->f i<=255) (hg:∀ i,i<m->g i<=255):((bstr n f).toList==(bstr m g).toList)=eqF n m f g:=by
 rw [Bool.eq_iff_iff,eqF_iff,beq_iff_eq,bstr_toList,bstr_toList];constructor
 ·intro h
  have hl:=congrArg List.length h;simp at hl;subst hl;refine ⟨rfl,fun i hi=>?_⟩;have:=congrArg (fun l=>l[i]?) h;simp only [List.getElem?_map,List.getElem?_range hi,Option.map_some,Option.some.injEq] at this;have h2:=congrArg UInt8.toNat this;have hfi:=hf i hi;have hgi:=hg i hi;simp at h2;omega
 ·rintro ⟨rfl,h⟩
  apply List.map_congr_left;intro i hi;rw [h i (by simpa using hi)]
theorem BytesIn.le {w:World} {a:Option Addr} {n cap:Nat} {f:Nat->Nat} (h:BytesIn w a n cap f):∀ i,i<n->f i<=255:=by
 intro i hi;obtain ⟨h1,h2,h3,h4⟩:=h
 cases a with
 | none=>have:=(h3 rfl).1;omega
 | some b =>
  obtain ⟨k,o,rfl,hb⟩:=h4 b rfl (by omega);exact (hb i hi).2
theorem conv_at {w:World} {a:Option Addr} {n cap:Nat} {f:Nat->Nat} (h:BytesIn w a n cap f):(convert 22 9 (.slice a n cap)).run Tryz.prog w = .ok (.string (bstr n f)) w:=by
 obtain ⟨h1,h2,h3,h4⟩:=h
 cases a with
 | none =>
  obtain ⟨rfl,rfl⟩:=h3 rfl;rw [run_convert_bytes_string w 22 9 5 none 0 0 Tryz.underlying22 Tryz.underlying5 Tryz.underlying9];simp [Conv.bytesToString,loadCells];rfl
 | some b =>
  by_cases h0:n=0
  ·subst h0
   rw [run_convert_bytes_string w 22 9 5 (some b) 0 cap Tryz.underlying22 Tryz.underlying5 Tryz.underlying9];simp [Conv.bytesToString,loadCells];rfl
  obtain ⟨k,o,rfl,hb⟩:=h4 b rfl (by omega);refine run_convert_bytes_arg (P:=Tryz.prog) w 22 5 Tryz.underlying22 Tryz.underlying5 k o n cap _ (by simp) ?_ 9 Tryz.underlying9;intro i hi;rw [(hb i hi).1];simp [List.getD,List.getElem?_map,List.getElem?_range hi]
structure Dk where
 n:Nat
 data:Nat->Nat->Nat
 waits:List (Nat × (Nat->Nat))
def rowD (n:Nat) (f:Nat->Nat->Nat):Array Value:=u8s (n*128) fun i=>f (i / 128) (i % 128)
def wrV (x:Nat × (Nat->Nat)) (i:Nat):Value:=if i=0 then .int .i64 (x.1:Int) else .int .u8 (x.2 (i - 1):Int)
def wrRow (x:Nat × (Nat->Nat)):Array Value:=fnRow 129 (wrV x)
def wrCells:List (Nat × (Nat->Nat))->List Value
 | []=>[]
 | x::r=>(wrRow x).toList++wrCells r
theorem zfs (n:Nat) (V:Nat->Value):(fnRow n V).size=n:=by simp [fnRow]
theorem zfg {n i:Nat} {V:Nat->Value} (h:i<n):(fnRow n V)[i]?=some (V i):=by simp [fnRow,h]
theorem wrCells_get (l:List (Nat × (Nat->Nat))) (i j:Nat) (hi:i<l.length) (hj:j<129):(wrCells l)[i*129+j]?=some (wrV l[i] j):=by
 induction l generalizing i with
 | nil=>simp at hi
 | cons p r ih =>
  rw [wrCells];have hl:(wrRow p).toList.length=129:=by rw [Array.length_toList,wrRow,zfs]
  cases i with
  | zero =>
   rw [List.getElem?_append_left (by omega),Array.getElem?_toList,wrRow,Nat.zero_mul,Nat.zero_add,zfg hj];rfl
  | succ k =>
   rw [List.getElem?_append_right (by omega),hl,show (k+1)*129+j - 129=k*129+j by omega,ih k (by simpa using hi)];rfl
theorem wrCells_app (a b:List (Nat × (Nat->Nat))):wrCells (a++b)=wrCells a++wrCells b:=by
 induction a with
 | nil=>rfl
 | cons p r ih=>rw [List.cons_append,wrCells,wrCells,ih,List.append_assoc]
structure DiskAt (w:World) (p bb:Nat) (wv:Value) (D:Dk):Prop where
 n1:1<=D.n
 n2:D.n<=4096
 le:∀ b,b<D.n->∀ i,i<128->D.data b i<=255
 top:w.heap[p]?=some (.cells #[.slice (some ⟨bb,0,none⟩) D.n D.n,wv,.int .i64 (-1),.bool false] 156 (0,0))
 blk:w.heap[bb]?=some (.cells (rowD D.n D.data) 169 (0,0))
 wts:w.ownsRow 0 171 129 wv D.waits.length (wrCells D.waits)
 wle:∀ x,x∈D.waits->x.1<D.n/\∀ i,i<128->x.2 i<=255
 wl:D.waits.length<=1000000
section
variable {w w':World} {p bb:Nat} {wv:Value} {D:Dk}
theorem DiskAt.ne (h:DiskAt w p bb wv D):p≠bb:=by
 rintro rfl;have h1:=h.top;rw [h.blk] at h1;injection h1 with h1;injection h1 with _ h1
 revert h1;decide
theorem DiskAt.wne (h:DiskAt w p bb wv D):wv.ownBlock≠some p/\wv.ownBlock≠some bb:=⟨row_ne h.wts h.top (by decide),row_ne h.wts h.blk (by decide)⟩
theorem DiskAt.chg {L:List Nat} (h:DiskAt w p bb wv D) (c:Chg L w w') (h1:p∉L) (h2:bb∉L) (h3:∀ k,wv.ownBlock=some k->k∉L):DiskAt w' p bb wv D :=
 { h with top:=(c.block p (zhl h.top) h1).trans h.top,blk:=(c.block bb (zhl h.blk) h2).trans h.blk,wts:=zoc h.wts c h3 }
theorem DiskAt.lt (h:DiskAt w p bb wv D):p<w.heap.size/\bb<w.heap.size:=⟨zhl h.top,zhl h.blk⟩
theorem DiskAt.wlt (h:DiskAt w p bb wv D):∀ k,wv.ownBlock=some k->k<w.heap.size:=fun k hk=>h.wts.lt k hk |>.2
end
section
variable {w:World} {p bb:Nat} {wv:Value} {D:Dk}
theorem dMay_at (h:DiskAt w p bb wv D):Calls Tryz.prog 104 #[.pointer (some ⟨p,0,none⟩)] w fun e w'=>e = .returned (.int .i64 0)/\w=w':=by
 have ht:=h.top;have c0:=zcb ht 0;have c1:=zcb ht 1;have c2:=zcb ht 2;have c3:=zcb ht 3;simp only [tA1,tA3,tA2] at c0 c1 c2 c3;have hn:=Lib.run_eql_slice_nil (P:=Tryz.prog) w 149 169 (some ⟨bb,0,none⟩) D.n D.n 0 0 Tryz.underlying149;go_enter Tryz.func104,Tryz.ntmps104;go_wp2_with fail;go_ret;exact ⟨rfl,rfl⟩
theorem dPower_at (h:DiskAt w p bb wv D):Calls Tryz.prog 105 #[.pointer (some ⟨p,0,none⟩)] w fun e w'=>e = .returned (.int .i64 0)/\w=w':=by
 have ht:=h.top;have c0:=zcb ht 0;have c1:=zcb ht 1;have c2:=zcb ht 2;have c3:=zcb ht 3;simp only [tA1,tA3,tA2] at c0 c1 c2 c3;go_enter Tryz.func105,Tryz.ntmps105;go_wp2_with fail;go_ret;exact ⟨rfl,rfl⟩
theorem dLen_at (h:DiskAt w p bb wv D):Calls Tryz.prog 43 #[.pointer (some ⟨p,0,none⟩)] w fun e w'=>e = .returned (.int .i64 (D.n:Int))/\w=w':=by
 have ht:=h.top;have c0:=zcb ht 0;have c1:=zcb ht 1;have c2:=zcb ht 2;have c3:=zcb ht 3;simp only [tA1,tA3,tA2] at c0 c1 c2 c3;go_enter Tryz.func43,Tryz.ntmps43;go_wp2_with fail;go_ret;exact ⟨rfl,rfl⟩
end
theorem infoBlk:(Tryz.prog.info? 169).map (fun i=>(i.zero,i.size,i.bytes))=some (some (.agg (Array.replicate 128 (.int .u8 0))),128,128):=by kernel_rfl
theorem infoWr:(Tryz.prog.info? 171).map (fun i=>(i.zero,i.size,i.bytes))=some (some (.agg (#[.int .i64 0]++Array.replicate 128 (.int .u8 0))),129,136):=by kernel_rfl
theorem laid_row' {n at':Nat} {d:Nat->Nat->Nat} {f:Nat->Nat} (ha:at'<n):fnRow (n*128) (laid (fun i => .int .u8 (d (i / 128) (i % 128):Int)) (fun i => .int .u8 (f i:Int)) (at'*128) 128)=rowD n (fun b=>if b=at' then f else d b):=by
 apply Array.ext_getElem?;intro i;by_cases hi:i<n*128
 ·rw [zfg hi,rowD,u8s_get hi]
  unfold laid;by_cases h:at'*128<=i/\i<at'*128+128
  ·rw [if_pos h,show i / 128=at' by omega,if_pos rfl,show i - at'*128=i % 128 by omega]
  ·rw [if_neg h,if_neg (show ¬ i / 128=at' by omega)]
 ·rw [Array.getElem?_eq_none (by rw [zfs];omega),Array.getElem?_eq_none (by simp [rowD,u8s];omega)]
theorem dpPut_at {w:World} {p bb at' n:Nat} {f:Nat->Nat} {d:Nat->Nat->Nat} (hp:w.cell? ⟨p,0,none⟩=some (.slice (some ⟨bb,0,none⟩) n n)) (hb:w.heap[bb]?=some (.cells (rowD n d) 169 (0,0))) (ha:at'<n) (hn:n<=4096) :
  Calls Tryz.prog 146 #[.pointer (some ⟨p,0,none⟩),.agg (wrRow (at',f)),.int .i64 128] w fun e w'=>e = .returned (.tuple #[])/\w'.heap[bb]?=some (.cells (rowD n (fun b=>if b=at' then f else d b)) 169 (0,0))/\Chg [bb] w w':=by
 have hc:Chg [] w (w.alloc (.cells (wrRow (at',f)) 171)):=(Chg.refl [] w).alloc _;have hx:=znb w (.cells (wrRow (at',f)) 171);have hp':=(hc.cell (p:=⟨p,0,none⟩) (World.block_lt_of_cell? w ⟨p,0,none⟩ hp) (by simp)).trans hp;have hb':=(hc.block bb (zhl hb) (by simp)).trans hb;have hwr:∀ j,j<129->(w.alloc (.cells (wrRow (at',f)) 171)).cell? ⟨w.heap.size,j,none⟩=some (wrV (at',f) j):=fun j hj=>(zcb hx j).trans (zfg hj);have h0:(w.alloc (.cells (wrRow (at',f)) 171)).cell? ⟨w.heap.size,0,none⟩=some (.int .i64 (at':Int)):=hwr 0 (by omega);have hlt:bb<w.heap.size:=zhl hb;have HPL:=zh (World.block_lt_of_cell? w ⟨p,0,none⟩ hp);have HPP:=zh hp;have i1:(at':Int)<(n:Int):=by omega
 clear hp hb;go_enter Tryz.func146,Tryz.ntmps146;go_upto_region 1 with fail;have HC:=zh hc;have HB:=zh hb';have HW:=zh hwr;have HLT:=zh (zhl hx)
 have HPB:=zh (show p≠bb from fun e=>by
  subst e;rw [zcb hb' 0] at hp';unfold rowD at hp';by_cases h0:0<n*128
  ·rw [u8s_get h0] at hp';cases hp'
  ·omega)
 clear hc hb' hwr hx;generalize w.alloc (.cells (wrRow (at',f)) 171)=W at *;refine wp_region_held_drew (S:=fun W'=>W'.cell? ⟨p,0,none⟩=some (.slice (some ⟨bb,0,none⟩) n n)/\W'.cell? ⟨w.heap.size,0,none⟩=some (.int .i64 (at':Int))) (by kernel_rfl) (by exact ⟨hp',h0⟩) (fun hHeld=>?_);refine wVc 0 ?_;refine wVc 1 ?_;refine wVc 2 ?_;refine wVc 3 ?_;refine wVc 4 ?_;refine wVc 5 ?_;refine wVc 6 ?_;refine wVc 7 ?_;refine wVc 8 ?_;refine wVc 9 ?_;refine wVc 10 ?_;try simp only [Act.put,sA1,sA2,sA3]
 refine wE 11 (fun K hK=>?_)
 ·(refine step_copy rfl (.tmp 14) (.tmp 16) 22 22 rfl 5 Tryz.underlying22 (by kernel_rfl) bb (at'*128) 128 128 w.heap.size 1 128 128 (n*128) (fun i => .int .u8 (d (i / 128) (i % 128):Int)) (fun i => .int .u8 (f i:Int)) 169 (by simp [Act.eval,Act.put]) (by simp [Act.eval,Act.put]) HB.out 128 (by decide) (fun j hj=>(HW.out (1+j) (by omega)).trans (by unfold wrV;rw [if_neg (by omega),Nat.add_sub_cancel_left])) (fun j hj=>rfl) (by omega) ?_;intro w1 hb1 hc1;rw [laid_row' ha] at hb1;have hne:w.heap.size≠bb:=(by omega);have k0:=(hc1.cell (p:=⟨w.heap.size,0,none⟩) HLT.out (by simp;exact hne)).trans h0;have HF:=zh (zA hb1 ((HC.out.drew.mono (L':=[bb]) (by simp)).trans hc1));clear hb1 hc1)
  refine hK.out _ _ (⟨(HF.out.2.cell (p:=⟨p,0,none⟩) HPL.out (by simp;exact HPB.out)).trans HPP.out,k0⟩) (fun hHeld=>?_);clear hK K;try simp only [Act.put,sA1,sA2,sA3]
  refine wpAnyH_done (by kernel_rfl) ?_ _;go_wp2_with fail
  go_end0
  exact ⟨rfl,HF.out.1,HF.out.2⟩
end Go.Proofs.YtkhcaclndepgbaaGreat
